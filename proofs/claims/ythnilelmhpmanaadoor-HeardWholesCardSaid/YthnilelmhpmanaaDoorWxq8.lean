/- A part of the proof: contracts and laws. -/
import Derived.Test.YthnilelmhpmanaaDoorWxq6
import Derived.Test.YthnilelmhpmanaaDoorWxq7
section
namespace Go.Proofs.YthnilelmhpmanaaDoor.PHeardFits
open Go.RowKit Go.Proofs.YthnilelmhpmanaaDoorW.PrintWords Go.Proofs.YthnilelmhpmanaaDoorW.PrintLast Go.Proofs.YthnilelmhpmanaaDoorW.PrintMore
open Go.Proofs.YthnilelmhpmanaaDoor.Hm
set_option linter.unusedVariables false
set_option linter.unusedSimpArgs false
theorem eqA162 (d:Nat) (w:World) (x0 y0 x1 y1:Int) :
    (Op.equalIn (d+2) 162 (.agg #[.int .i64 x0,.int .i64 x1]) (.agg #[.int .i64 y0,.int .i64 y1])).run Tryd.prog w=.ok (x0 == y0 && x1 == y1) w:=by
  refine eqA_of Tryd.underlying162 (by kernel_rfl) ?_
  refine eqf_cons (by rfl) (by go_simp;rfl) (by go_simp;rfl) (by go_simp) ?_
  exact eqf_last (by rfl) (by go_simp;rfl) (by go_simp;rfl) (by go_simp)
theorem eqA107 (d:Nat) (w:World) (x0 y0 x1 y1:Int) :
    (Op.equalIn (d+2) 107 (.agg #[.int .i64 x0,.int .i64 x1]) (.agg #[.int .i64 y0,.int .i64 y1])).run Tryd.prog w=.ok (x0 == y0 && x1 == y1) w:=by
  refine eqA_of Tryd.underlying107 (by kernel_rfl) ?_
  refine eqf_cons (by rfl) (by go_simp;rfl) (by go_simp;rfl) (by go_simp) ?_
  exact eqf_last (by rfl) (by go_simp;rfl) (by go_simp;rfl) (by go_simp)
theorem check_int (n:Nat) (em:Bool) (a:Int) (w:World):(Instr.checkKey em (n+1) 3 (.int .i64 a)).run Tryd.prog w=.ok () w:=by
  simp [Instr.checkKey,Sem.run_bind,run_underlying Tryd.underlying3]
theorem check_two (em : Bool) (t : TypeId) (f0 f1 : Field) (hu : Tryd.prog.underlying t = some (.struct #[f0, f1])) (n0 : (f0.name == "_") = false) (n1 : (f1.name == "_") = false) (t0 : f0.type = 3) (t1 : f1.type = 3) (o0 : f0.offset = 0) (o1 : f1.offset = 1) (w : World) (a b : Int) :
    (Instr.checkKey em 10000 t (ks a b)).run Tryd.prog w=.ok () w:=by
  have h0 : f0.name ≠ "_" := by simpa using n0
  have h1 : f1.name ≠ "_" := by simpa using n1
  have p0:(part 3 #[Value.int .i64 a,.int .i64 b] 0).run Tryd.prog w=.ok (.int .i64 a) w:=by go_simp
  have p1:(part 3 #[Value.int .i64 a,.int .i64 b] 1).run Tryd.prog w=.ok (.int .i64 b) w:=by go_simp
  have c0:=check_int 9998 em a w
  have c1:=check_int 9998 em b w
  show (Instr.checkKey em (9999+1) t (ks a b)).run Tryd.prog w=.ok () w
  rw [Instr.checkKey]
  simp only [Sem.run_bind,run_underlying hu,Result.andThen_ok,ks]
  simp only [show (9998+1:Nat)=9999 from rfl] at c0 c1
  simp [h0,h1,t0,t1,o0,o1,p0,p1,c0,c1]
theorem key162:SpotKey Tryd.prog 162 where
  eq w a b c d:=eqA162 9998 w a c b d
  check w em a b:=check_two em 162 _ _ Tryd.underlying162 (by kernel_rfl) (by kernel_rfl) rfl rfl rfl rfl w a b
  under:=⟨_,Tryd.underlying162⟩
theorem key107:SpotKey Tryd.prog 107 where
  eq w a b c d:=eqA107 9998 w a c b d
  check w em a b:=check_two em 107 _ _ Tryd.underlying107 (by kernel_rfl) (by kernel_rfl) rfl rfl rfl rfl w a b
  under:=⟨_,Tryd.underlying107⟩
theorem bcell {W w1:World} (hb:Below W.heap.size W w1):(∀ b o,b<W.heap.size→w1.cell? ⟨b,o,none⟩=W.cell? ⟨b,o,none⟩)∧(∀ b o,b<W.heap.size→w1.frozen? ⟨b,o,none⟩=W.frozen? ⟨b,o,none⟩) :=
  ⟨fun b o h=>hb.cell (p:=⟨b,o,none⟩) h,fun b o h=>hb.frozen (p:=⟨b,o,none⟩) h⟩
/-- Which gongs are struck, by form and beat. -/
abbrev TB:=Int→Int→Nat→Bool
def gv (tb:TB) (c d:Int):Value:=.agg #[.bool (tb c d 0),.bool (tb c d 1),.bool (tb c d 2),.bool (tb c d 3),.bool (tb c d 4)]
def gz:Value:=.agg #[.bool false,.bool false,.bool false,.bool false,.bool false]
def Tab (m:SM) (tb:TB):Prop:=∀ c d,(mget m c d).getD gz=gv tb c d
def mark (tb:TB) (c d:Int) (g:Nat):TB:=fun c' d' g'=>tb c' d' g' || (c' == c && d' == d && g' == g)
def rowT (tb:TB) (f:Int) (g:Nat):List Int→TB
  | []=>tb
  | b :: r=>rowT (mark tb f b g) f g r
def formT (tb:TB) (f:Int):Nat→List (List Int)→TB
  | _,[]=>tb
  | g,l :: r=>formT (rowT tb f g l) f (g+1) r
def allT (tb:TB):Nat→List S85→TB
  | _,[]=>tb
  | i,f :: r=>allT (formT tb i 0 f.f1) (i+1) r
def t0:TB:=fun _ _ _=>false
theorem Tab.start:Tab [] t0:=fun c d=>rfl
theorem Tab.put {m:SM} {tb:TB} (h:Tab m tb) (c d:Int) (g:Nat) {v:Value} (hv:v=gv (mark tb c d g) c d):Tab (mput m c d v) (mark tb c d g):=by
  intro c' d'
  rw [mget_put]
  by_cases hc:c'=c∧d'=d
  · rw [if_pos hc,hc.1,hc.2,hv];rfl
  · rw [if_neg hc,h c' d']
    have hf:∀ k,mark tb c d g c' d' k=tb c' d' k:=fun k=>by
      unfold mark
      have:(c' == c && d' == d && k == g)=false:=by
        rw [Bool.eq_false_iff];intro hh;simp at hh;exact hc hh.1
      rw [this,Bool.or_false]
    simp only [gv,hf]
theorem keep_alloc {w w':World} {g:Nat} (h:KeepBut w w' g none) (o:Obj):KeepBut w (w'.alloc o) g none :=
  ⟨Nat.le_trans h.1 (by simp),fun i hi h1 h2=>(Below.heap_alloc w' o i (Nat.lt_of_lt_of_le hi h.1)).trans (h.2 i hi h1 h2)⟩
theorem rd_T85_mem (fs:List S85) (i:Nat) (h:i<fs.length):rd_T85 fs (i:Int) ∈ fs:=by
  have:rd_T85 fs (i:Int) ∈ fs.drop i:=by rw [rd_T85_cons fs i h];exact List.mem_cons_self
  exact List.mem_of_mem_drop this
theorem rd_L1_mem (ls:List (List Int)) (i:Nat) (h:i<ls.length):rd_L1 ls (i:Int) ∈ ls:=by
  have:rd_L1 ls (i:Int) ∈ ls.drop i:=by rw [rd_L1_cons ls i h];exact List.mem_cons_self
  exact List.mem_of_mem_drop this
theorem grows_len:∀ (l:List Int) (last below:Int),growsB last below l=true→(l.length:Int)≤max 0 (below - 1 - last)∧∀ x ∈ l,last<x∧x<below
  | [],_,_,_=>⟨by simp;omega,by simp⟩
  | x :: r,last,below,h=>by
    simp only [growsB,Bool.and_eq_true,decide_eq_true_eq] at h
    obtain ⟨h1,h2⟩:=grows_len r x below h.2
    refine ⟨by simp;omega,fun y hy=>?_⟩
    rcases List.mem_cons.1 hy with rfl|hy
    · omega
    · have:=h2 y hy;omega
theorem rowsB_mem (beats:Int):∀ (ls:List (List Int)) (i:Nat),rowsB beats i ls=true→∀ l ∈ ls,growsB (-1) beats l=true
  | [],_,_,l,hl=>by simp at hl
  | x :: r,i,h,l,hl=>by
    simp only [rowsB,rowB,Bool.and_eq_true] at h
    rcases List.mem_cons.1 hl with rfl|hl
    · exact h.1.1
    · exact rowsB_mem beats r (i+1) h.2 l hl
theorem book_forms {g:Int} {fs:List S85} (h:bookB g fs=true):fs.length≤4∧∀ f ∈ fs,2≤f.f0∧f.f0≤32∧f.f1.length≤5∧∀ l ∈ f.f1,l.length≤32∧∀ x ∈ l,0≤x∧x<f.f0:=by
  simp only [bookB,Bool.and_eq_true,decide_eq_true_eq,List.all_eq_true] at h
  refine ⟨h.1.2.2,fun f hf=>?_⟩
  have h1:=h.2 f hf
  simp only [formB,Bool.and_eq_true,decide_eq_true_eq,beq_iff_eq] at h1
  refine ⟨h1.1.1.1,h1.1.1.2,by omega,fun l hl=>?_⟩
  obtain ⟨h2,h3⟩:=grows_len l _ _ (rowsB_mem _ _ _ h1.2 l hl)
  exact ⟨by omega,fun x hx=>by have:=h3 x hx;omega⟩
theorem keep_grown {w w' w1:World} {g:Nat} (h:KeepBut w w' g none) (hg:w'.grownBy w1 (some g)):KeepBut w w1 g none :=
  ⟨Nat.le_trans h.1 hg.size,fun i hi h1 h2=>(hg.block i (Nat.lt_of_lt_of_le hi h.1) (by simpa using h1)).trans (h.2 i hi h1 h2)⟩
theorem gv_mark (tb:TB) (c d:Int) (j:Nat) (hj:j<5):Value.agg #[([Value.bool (tb c d 0),Value.bool (tb c d 1),Value.bool (tb c d 2),Value.bool (tb c d 3),Value.bool (tb c d 4)].set j (Value.bool true))[0]'(by simp),([Value.bool (tb c d 0),Value.bool (tb c d 1),Value.bool (tb c d 2),Value.bool (tb c d 3),Value.bool (tb c d 4)].set j (Value.bool true))[1]'(by simp),([Value.bool (tb c d 0),Value.bool (tb c d 1),Value.bool (tb c d 2),Value.bool (tb c d 3),Value.bool (tb c d 4)].set j (Value.bool true))[2]'(by simp),([Value.bool (tb c d 0),Value.bool (tb c d 1),Value.bool (tb c d 2),Value.bool (tb c d 3),Value.bool (tb c d 4)].set j (Value.bool true))[3]'(by simp),([Value.bool (tb c d 0),Value.bool (tb c d 1),Value.bool (tb c d 2),Value.bool (tb c d 3),Value.bool (tb c d 4)].set j (Value.bool true))[4]'(by simp)]=gv (mark tb c d j) c d:=by
  have:j=0∨j=1∨j=2∨j=3∨j=4:=by omega
  rcases this with rfl|rfl|rfl|rfl|rfl <;> simp [gv,mark]
theorem zero125 (w:World):(zeroValue 125).run Tryd.prog w=.ok gz w:=by kernel_rfl
set_option maxRecDepth 100000 in
set_option maxHeartbeats 1000000 in
theorem opened_any (k:Nat) (g:Int) (A:Option Addr) (c:Nat) (fs:List S85) (p1 p2:Value) (rr:Bool) (w:World) (hfv:∀ (B:Nat) (w':World),Below w.heap.size w w'→Calls Tryd.prog 83 #[.agg #[.int .i64 g,.slice A fs.length c,.map (some B)],p1,p2] w' fun e w''=>e=.returned (.bool rr)∧Below w'.heap.size w' w'') (hr:Kd.C k85 w A fs.length fs) (hc:fs.length≤c) (h:cycle_Check.f k g fs=some 0) (hB:bookB g fs=true) :
    Calls Tryd.prog 82 #[.agg #[.int .i64 g,.slice A fs.length c],.func (.func 83) #[] #[p1,p2]] w fun e w'=>Below w.heap.size w w'∧(rr=false∧e=.returned (.tuple #[.agg #[.int .i64 0,.slice none 0 0,.map none],.int .i64 51])∨rr=true∧∃ B m,w.heap.size≤B∧MapIs w' B m∧Tab m (allT t0 0 fs)∧e=.returned (.tuple #[.agg #[.int .i64 g,.slice A fs.length c,.map (some B)],.int .i64 0])):=by
  have HFV:=Aside0.mk hfv
  have HR:=Aside0.mk hr
  have HC:=Aside0.mk hc
  have HH:=Aside0.mk h
  clear hfv
  have HForms:Aside0 (∀ f ∈ fs,f.f1.length≤5∧∀ l ∈ f.f1,l.length≤32):=⟨fun f hf=>⟨((book_forms hB).2 f hf).2.2.1,fun l hl=>(((book_forms hB).2 f hf).2.2.2 l hl).1⟩⟩
  have hf4:=(book_forms hB).1
  clear hr hc h hB
  have hu24:=Tryd.underlying24
  have hmm:=@run_makeMap Tryd.prog
  go_enter Tryd.func82,Tryd.ntmps82
  go_wp2_with fail
  refine (cycle_Check.calls k _ _ _ _ _ _ (Kd.C_below HR.out (((Below.refl _ _).alloc (Nat.le_refl _) _).alloc (by simp) _)) HC.out HH.out).mono ?_
  rintro e w1 ⟨rfl,hb⟩
  have e0:w1.cell? ⟨w.heap.size,0,none⟩=some (.int .i64 g):=by rw [(bcell hb).1 _ _ (by simp;omega)];go_simp
  have e1:w1.cell? ⟨w.heap.size,1,none⟩=some (.slice A fs.length c):=by rw [(bcell hb).1 _ _ (by simp;omega)];go_simp
  have hz:w.heap.size+1<w1.heap.size:=by have:=hb.size;simp at this;omega
  have hz1:w.heap.size<w1.heap.size:=by omega
  have hz2:w.heap.size<w1.heap.size+1:=by omega
  have hW1:Below w.heap.size w w1:=(((Below.refl _ _).alloc (Nat.le_refl _) _).alloc (by simp) _).trans (hb.mono (by simp;omega))
  have HB:=Aside0.mk hW1
  have r1:Aside0 (w1.heap[w.heap.size+1]?=some (.cells #[Value.int IntKind.i64 0,Value.slice none 0 0,Value.map none] 120 (0,0))):=⟨(hb.block (w.heap.size+1) (by simp)).trans (by have:=heap_alloc_new (w.alloc (Obj.cells #[Value.int IntKind.i64 g,Value.slice A fs.length c] 24)) (Obj.cells #[Value.int IntKind.i64 0,Value.slice none 0 0,Value.map none] 120);simpa using this)⟩
  have hzz:=Aside0.mk hz
  clear hb hW1
  go_wp2_with fail
  have hM:=Aside0.mk ((MapIs.made w1).alloc (Obj.cells #[Value.int IntKind.i64 g,Value.slice A fs.length c,Value.map (some w1.heap.size)] 120))
  have f1:((w1.alloc (Obj.map #[] 0)).alloc (Obj.cells #[Value.int IntKind.i64 g,Value.slice A fs.length c,Value.map (some w1.heap.size)] 120)).heap[w1.heap.size+1]?=some (.cells #[Value.int IntKind.i64 g,Value.slice A fs.length c,Value.map (some w1.heap.size)] 120 (0,0)):=by
    have:=heap_alloc_new (w1.alloc (Obj.map #[] 0)) (Obj.cells #[Value.int IntKind.i64 g,Value.slice A fs.length c,Value.map (some w1.heap.size)] 120)
    simpa using this
  have f2:=Aside0.mk ((HB.out.alloc (Nat.le_of_lt hz1) (Obj.map #[] 0)).alloc (by simp;omega) (Obj.cells #[Value.int IntKind.i64 g,Value.slice A fs.length c,Value.map (some w1.heap.size)] 120))
  have f4:=Aside0.mk (blk_alloc (blk_alloc r1.out (Obj.map #[] 0)) (Obj.cells #[Value.int IntKind.i64 g,Value.slice A fs.length c,Value.map (some w1.heap.size)] 120))
  have f3:((w1.alloc (Obj.map #[] 0)).alloc (Obj.cells #[Value.int IntKind.i64 g,Value.slice A fs.length c,Value.map (some w1.heap.size)] 120)).heap.size=w1.heap.size+2:=by simp
  obtain ⟨wL,hwL⟩:∃ wL,((w1.alloc (Obj.map #[] 0)).alloc (Obj.cells #[Value.int IntKind.i64 g,Value.slice A fs.length c,Value.map (some w1.heap.size)] 120))=wL:=⟨_,rfl⟩
  rw [hwL] at hM f1 f2 f3 f4 ⊢
  clear hwL
  have F1:=Aside0.mk f1
  have F3:=Aside0.mk f3
  clear f1 f3 e0 e1 hz hz2
  obtain ⟨B,hBdef⟩:∃ B,w1.heap.size=B:=⟨_,rfl⟩
  rw [hBdef] at hM F1 F3 hz1 hzz ⊢
  clear hBdef HB r1
  go_loopg [28] fs.length (fun gk v28 w'=>∃ (i:Nat) (m:SM) (tb:TB),v28=.int .i64 i∧Aside0 (gk+i=fs.length)∧Aside0 (allT t0 0 fs=allT tb i (fs.drop i))∧Aside0 (MapIs w' B m)∧Aside0 (Tab m tb)∧Aside0 (KeepBut wL w' B none)∧Aside0 (Below w.heap.size w w'))
  case atStart=>exact ⟨0,[],t0,rfl,⟨by omega⟩,⟨rfl⟩,hM,⟨Tab.start⟩,⟨⟨Nat.le_refl _,fun _ _ _ _=>rfl⟩⟩,f2⟩
  case round =>
    obtain ⟨i,m,tb,rfl,HI,HT,HM,HTab,HK,HBw⟩:=hrel
    have hi:=HI.out
    by_cases hlt:i<fs.length
    · obtain ⟨ad,A1,c1,e1,hx0,hx1,hl1,hC1⟩:=at_T85 HR.out (i:Int) (by omega) (by omega)
      cases e1
      replace hx0:=(HBw.out.cell (World.block_lt_of_cell? w _ hx0)).trans hx0
      replace hx1:=(HBw.out.cell (World.block_lt_of_cell? w _ hx1)).trans hx1
      have HL1:=Aside0.mk hl1
      have HC1:=Aside0.mk hC1
      clear hl1 hC1
      rw [Int.toNat_natCast] at hx0 hx1
      go_wp2_with fail
      have HM2:=Aside0.mk (HM.out.alloc (Obj.cells #[Value.int IntKind.i64 (rd_T85 fs ↑i).f0,Value.slice A1 (rd_T85 fs ↑i).f1.length c1] 85))
      have HK2:Aside0 (KeepBut wL (wr.alloc (Obj.cells #[Value.int IntKind.i64 (rd_T85 fs ↑i).f0,Value.slice A1 (rd_T85 fs ↑i).f1.length c1] 85)) B none):=⟨keep_alloc HK.out _⟩
      have HB2:=Aside0.mk (HBw.out.alloc HBw.out.size (Obj.cells #[Value.int IntKind.i64 (rd_T85 fs ↑i).f0,Value.slice A1 (rd_T85 fs ↑i).f1.length c1] 85))
      obtain ⟨w2,hw2⟩:∃ w2,wr.alloc (Obj.cells #[Value.int IntKind.i64 (rd_T85 fs ↑i).f0,Value.slice A1 (rd_T85 fs ↑i).f1.length c1] 85)=w2:=⟨_,rfl⟩
      rw [hw2] at HM2 HK2 HB2 ⊢
      clear hw2 hx0 hx1
      have hform:=HForms.out (rd_T85 fs ↑i) (rd_T85_mem fs i hlt)
      obtain ⟨hg5,hrows⟩:=hform
      have HRows:=Aside0.mk hrows
      clear hrows
      obtain ⟨gkA,rfl⟩:∃ x:Nat,x=gk:=⟨_,rfl⟩
      obtain ⟨wrA,rfl⟩:∃ x:World,x=wr:=⟨_,rfl⟩
      go_loopg [36] (rd_T85 fs ↑i).f1.length (fun gk v36 w'=>∃ (j:Nat) (m2:SM) (tb2:TB),v36=.int .i64 j∧Aside0 (gk+j=(rd_T85 fs ↑i).f1.length)∧Aside0 (formT tb i 0 (rd_T85 fs ↑i).f1=formT tb2 i j ((rd_T85 fs ↑i).f1.drop j))∧Aside0 (MapIs w' B m2)∧Aside0 (Tab m2 tb2)∧Aside0 (KeepBut wL w' B none)∧Aside0 (Below w.heap.size w w'))
      case atStart=>exact ⟨0,m,tb,rfl,⟨by omega⟩,⟨rfl⟩,HM2,HTab,HK2,HB2⟩
      case round =>
        clear HM HK HBw HM2 HK2 HB2 HTab
        obtain ⟨j,m2,tb2,rfl,HJ,HT2,HM,HTab,HK,HBw⟩:=hrel
        have hj:=HJ.out
        by_cases hlt2:j<(rd_T85 fs ↑i).f1.length
        · obtain ⟨ad1,A2,c2,e1,hx0,hl2,hC2⟩:=at_L1 HC1.out (j:Int) (by omega) (by omega)
          cases e1
          replace hx0:=(HBw.out.cell (World.block_lt_of_cell? w _ hx0)).trans hx0
          rw [Int.toNat_natCast] at hx0
          have HL2:=Aside0.mk hl2
          have HC2:=Aside0.mk hC2
          clear hl2 hC2
          have hlen:=HRows.out _ (rd_L1_mem _ j hlt2)
          go_wp2_with fail
          obtain ⟨gkB,rfl⟩:∃ x:Nat,x=gk:=⟨_,rfl⟩
          obtain ⟨wrB,rfl⟩:∃ x:World,x=wr:=⟨_,rfl⟩
          go_loopg [43] (rd_L1 (rd_T85 fs ↑i).f1 ↑j).length (fun gk v43 w'=>∃ (q:Nat) (m3:SM) (tb3:TB),v43=.int .i64 q∧Aside0 (gk+q=(rd_L1 (rd_T85 fs ↑i).f1 ↑j).length)∧Aside0 (rowT tb2 i j (rd_L1 (rd_T85 fs ↑i).f1 ↑j)=rowT tb3 i j ((rd_L1 (rd_T85 fs ↑i).f1 ↑j).drop q))∧Aside0 (MapIs w' B m3)∧Aside0 (Tab m3 tb3)∧Aside0 (KeepBut wL w' B none)∧Aside0 (Below w.heap.size w w'))
          case atStart=>exact ⟨0,m2,tb2,rfl,⟨by omega⟩,⟨rfl⟩,HM,HTab,HK,HBw⟩
          case round =>
            clear HM HK HBw HTab hx0
            obtain ⟨q,m3,tb3,rfl,HQ,HT3,HM,HTab,HK,HBw⟩:=hrel
            have hq:=HQ.out
            by_cases hlt3:q<(rd_L1 (rd_T85 fs ↑i).f1 ↑j).length
            · obtain ⟨ad2,e1,hx0⟩:=Kd.at_int HC2.out (q:Int) (by omega) (by omega)
              cases e1
              replace hx0:=(HBw.out.cell (World.block_lt_of_cell? w _ hx0)).trans hx0
              rw [Int.toNat_natCast] at hx0
              have g0:wr.heap[B+1]?=some (.cells #[Value.int IntKind.i64 g,Value.slice (some ad) fs.length c,Value.map (some B)] 120 (0,0)):=(HK.out.2 (B+1) (by rw [F3.out];omega) (by omega) (by simp)).trans F1.out
              have g1:wr.cell? ⟨B+1,2,none⟩=some (Value.map (some B)):=(blk_cell g0 2).trans rfl
              have hsz:B+2≤wr.heap.size:=by have:=HK.out.1;rw [F3.out] at this;exact this
              have hsz1:B+1<wr.heap.size:=by omega
              have hsz2:B+1<wr.heap.size+1:=by omega
              have hsz3:B+1<wr.heap.size+1+1:=by omega
              clear g0
              have hj5:j<5:=by omega
              go_wp2_with (first|(at_lookup;refine wp_lookup_spot1 key162 Tryd.underlying118 rfl _ _ rfl B rfl _ _ rfl (HM.out.alloc _) gz (zero125 _) _ (HTab.out _ _) ?_;dsimp only [gv])|(at_mapUpdate;refine wp_update_spot key162 Tryd.underlying118 rfl _ _ _ rfl B rfl _ _ rfl _ rfl ((HM.out.alloc _).alloc _) ?_;intro w9 hM9 hG9 hS9))
              go_roundg (gk - 1)
              case measure=>omega
              case rel =>
                refine ⟨q+1,_,mark tb3 i (rd (rd_L1 (rd_T85 fs ↑i).f1 ↑j) ↑q) j,by go_num,⟨by omega⟩,⟨?_⟩,⟨hM9⟩,⟨?_⟩,⟨keep_grown (keep_alloc (keep_alloc HK.out _) _) hG9⟩,⟨((HBw.out.alloc HBw.out.size _).alloc (by have:=HBw.out.size;simp;omega) _).grown hG9 (by have:=HBw.out.size;simp;omega) (by rintro k hk;cases hk;omega)⟩⟩
                · rw [HT3.out,rd_cons _ _ hlt3];rfl
                · refine HTab.out.put _ _ _ (gv_mark _ _ _ _ hj5)
            · go_wp2_with fail
              go_roundg (gkB - 1)
              case measure=>omega
              case rel =>
                refine ⟨j+1,m3,tb3,by go_num,⟨by omega⟩,⟨?_⟩,HM,HTab,HK,HBw⟩
                rw [HT2.out,rd_L1_cons _ _ hlt2,formT,HT3.out,List.drop_eq_nil_of_le (by omega)];rfl
        · go_wp2_with fail
          go_roundg (gkA - 1)
          case measure=>omega
          case rel =>
            refine ⟨i+1,m2,tb2,by go_num,⟨by omega⟩,⟨?_⟩,HM,HTab,HK,HBw⟩
            rw [HT.out,rd_T85_cons _ _ hlt,allT,HT2.out,List.drop_eq_nil_of_le (by omega)];rfl
    · have g0:wr.heap[B+1]?=some (.cells #[Value.int IntKind.i64 g,Value.slice A fs.length c,Value.map (some B)] 120 (0,0)):=(HK.out.2 (B+1) (by rw [F3.out];omega) (by omega) (by simp)).trans F1.out
      have g1:wr.cell? ⟨B+1,0,none⟩=some (Value.int IntKind.i64 g):=(blk_cell g0 0).trans rfl
      have g2:wr.cell? ⟨B+1,1,none⟩=some (Value.slice A fs.length c):=(blk_cell g0 1).trans rfl
      have g3:wr.cell? ⟨B+1,2,none⟩=some (Value.map (some B)):=(blk_cell g0 2).trans rfl
      have hsz:B+2≤wr.heap.size:=by have:=HK.out.1;rw [F3.out] at this;exact this
      clear g0
      have hAll:Aside0 (allT t0 0 fs=tb):=⟨by rw [HT.out,List.drop_eq_nil_of_le (by omega)];rfl⟩
      have q0:wr.heap[w.heap.size+1]?=some (.cells #[Value.int IntKind.i64 0,Value.slice none 0 0,Value.map none] 120 (0,0)):=(HK.out.2 (w.heap.size+1) (by rw [F3.out];have:=hzz.out;omega) (by have:=hzz.out;omega) (by simp)).trans f4.out
      go_wp2_with fail
      refine (HFV.out B wr HBw.out).mono ?_
      rintro e w9 ⟨rfl,hb9⟩
      have hB9:=Aside0.mk (HBw.out.trans (hb9.mono HBw.out.size))
      have hM9:=Aside0.mk (HM.out.below hb9)
      replace g1:=(hb9.cell (p:=⟨B+1,0,none⟩) (by show B+1<_;omega)).trans g1
      replace g2:=(hb9.cell (p:=⟨B+1,1,none⟩) (by show B+1<_;omega)).trans g2
      replace g3:=(hb9.cell (p:=⟨B+1,2,none⟩) (by show B+1<_;omega)).trans g3
      replace q0:=blk_below q0 hb9
      have c0:=(blk_cell q0 0).trans rfl
      have c1:=(blk_cell q0 1).trans rfl
      have c2:=(blk_cell q0 2).trans rfl
      have z0:=blk_frozen q0 0
      have z1:=blk_frozen q0 1
      have z2:=blk_frozen q0 2
      have hne:B+1≠w.heap.size+1:=by omega
      clear q0 hb9
      have hBel:=fun (v0 v1 v2:Value)=>Aside0.mk (((hB9.out.setCell (p:=⟨w.heap.size+1,0,none⟩) (by show w.heap.size≤w.heap.size+1;omega) v0).setCell (p:=⟨w.heap.size+1,1,none⟩) (by show w.heap.size≤w.heap.size+1;omega) v1).setCell (p:=⟨w.heap.size+1,2,none⟩) (by show w.heap.size≤w.heap.size+1;omega) v2)
      cases rr with
      | false =>
        go_wp2_with fail
        refine bodyPost_ret (v:=.tuple #[.agg #[.int .i64 0,.slice none 0 0,.map none],.int .i64 51]) (by simp [results,Tryd.results82,go_sem,c0,c1,c2]) rfl ⟨(hBel _ _ _).out,rfl⟩
      | true =>
        go_wp2_with fail
        refine bodyPost_ret (v:=.tuple #[.agg #[.int .i64 g,.slice A fs.length c,.map (some B)],.int .i64 0]) (by simp [results,Tryd.results82,go_sem,c0,c1,c2]) rfl ⟨(hBel _ _ _).out,B,by omega,m,((hM9.out.setCell _ _).setCell _ _).setCell _ _,by rw [hAll.out];exact HTab.out,rfl⟩
end Go.Proofs.YthnilelmhpmanaaDoor.PHeardFits
end
section
namespace Go.Proofs.YthnilelmhpmanaaDoor.PHeardFits
open Go.RowKit Go.Proofs.YthnilelmhpmanaaDoorW.PrintWords Go.Proofs.YthnilelmhpmanaaDoorW.PrintLast Go.Proofs.YthnilelmhpmanaaDoorW.PrintMore
open Go.Proofs.YthnilelmhpmanaaDoor.Hm
attribute [local go_sem] max2_int min2_int max_two min_two max_three min_three max_four min_four
set_option linter.unusedVariables false
set_option linter.unusedSimpArgs false
theorem great_any (l:List Int) (x:Int) (A:Option Addr) (c:Nat) (w:World) (hr:Kd.C (Kd.int .i64) w A l.length l) (hl:l.length≤4611686018427387904) :
    Calls Tryd.prog 81 #[.int .i64 x,.slice A l.length c] w fun e w'=>e=.returned (.int .i64 (l.foldl mx x))∧Drawn0 w w':=by
  have HR:=Aside0.mk hr
  clear hr
  go_enter Tryd.func81,Tryd.ntmps81
  go_wp2_with fail
  go_loopg [0,9] l.length (fun gk v0 v9 w'=>∃ (i:Nat) (y:Int),v9=.int .i64 i∧v0=.int .i64 y∧Aside0 (gk+i=l.length)∧Aside0 (l.foldl mx x=(l.drop i).foldl mx y)∧Drawn0 w w')
  case atStart=>exact ⟨0,x,rfl,rfl,⟨by omega⟩,⟨rfl⟩,Drawn0.refl _⟩
  case round =>
    obtain ⟨i,y,rfl,rfl,HI,HA,⟨m1,rfl⟩⟩:=hrel
    have hi:=HI.out
    by_cases hlt:i<l.length
    · obtain ⟨ad,e1,hx⟩:=Kd.at_int HR.out (i:Int) (by omega) (by omega)
      cases e1
      rw [Int.toNat_natCast] at hx
      by_cases hm:y<rd l i
      · have e:Aside0 (mx y (rd l i)=rd l i):=⟨if_pos hm⟩
        go_wp2_with fail
        go_roundg (gk - 1)
        case measure=>omega
        case rel=>exact ⟨i+1,rd l i,by go_num,rfl,⟨by omega⟩,⟨by rw [HA.out,rd_cons l i hlt,List.foldl_cons,e.out]⟩,by repeat (first|exact Drawn0.refl _|apply Drawn0.step)⟩
      · have e:Aside0 (mx y (rd l i)=y):=⟨if_neg hm⟩
        go_wp2_with fail
        go_roundg (gk - 1)
        case measure=>omega
        case rel=>exact ⟨i+1,y,by go_num,rfl,⟨by omega⟩,⟨by rw [HA.out,rd_cons l i hlt,List.foldl_cons,e.out]⟩,by repeat (first|exact Drawn0.refl _|apply Drawn0.step)⟩
    · go_wp2_with fail
      go_ret
      exact ⟨ret_i64 (by rw [HA.out,List.drop_eq_nil_of_le (by omega)];rfl),by repeat (first|exact Drawn0.refl _|apply Drawn0.step)⟩
theorem C_one {w:World} {g:Nat} {y:Int} (h:w.cell? ⟨g,0,none⟩=some (.int .i64 y)):Kd.C (Kd.int .i64) w (some ⟨g,0,none⟩) [y].length [y]:=by
  refine ⟨rfl,by simp,fun _=>⟨⟨g,0,none⟩,rfl,fun j p hj=>?_⟩⟩
  have hj0:j=0:=by
    have:=(List.getElem?_eq_some_iff.1 hj).1
    simp at this;exact this
  subst hj0
  simp only [List.getElem?_cons_zero,Option.some.injEq] at hj
  subst hj
  refine ⟨[.int .i64 y],rfl,rfl,fun i u hu=>?_⟩
  have hi0:i=0:=by
    have:=(List.getElem?_eq_some_iff.1 hu).1
    simp at this;exact this
  subst hi0
  simp only [List.getElem?_cons_zero,Option.some.injEq] at hu
  subst hu
  exact h
theorem great_one (x y:Int) (g:Nat) (w:World) (h:w.cell? ⟨g,0,none⟩=some (.int .i64 y)) :
    Calls Tryd.prog 81 #[.int .i64 x,.slice (some ⟨g,0,none⟩) 1 1] w fun e w'=>e=.returned (.int .i64 (mx x y))∧Drawn0 w w' :=
  great_any [y] x _ 1 w (C_one h) (by simp)
def lcsG (x:Int) (f:List Int→Int):List Int→Int
  | []=>0
  | y :: b=>if x=y then mx (mx (f (y :: b)) (lcsG x f b)) (1+f b) else mx (f (y :: b)) (lcsG x f b)
/-- How many numbers two lists share, in order. -/
def lcsP:List Int→List Int→Int
  | []=>fun _=>0
  | x :: a=>lcsG x (lcsP a)
theorem mx_le {a b c:Int} (h1:a≤c) (h2:b≤c):mx a b≤c:=by unfold mx;split <;> assumption
theorem le_mx (a b:Int):a≤mx a b∧b≤mx a b:=by unfold mx;split <;> omega
theorem lcsP_nil (b:List Int):lcsP [] b=0:=rfl
theorem lcsP_nil2:∀ a,lcsP a []=0
  | []=>rfl
  | _ :: _=>rfl
theorem lcsP_cons (x y:Int) (a b:List Int):lcsP (x :: a) (y :: b)=if x=y then mx (mx (lcsP a (y :: b)) (lcsP (x :: a) b)) (1+lcsP a b) else mx (lcsP a (y :: b)) (lcsP (x :: a) b):=rfl
theorem lcsP_bd:∀ (a b:List Int),0≤lcsP a b∧lcsP a b≤a.length
  | [],b=>by simp [lcsP_nil]
  | x :: a,[]=>by rw [lcsP_nil2];simp;omega
  | x :: a,y :: b=>by
    have h1:=lcsP_bd a (y :: b)
    have h2:=lcsP_bd (x :: a) b
    have h3:=lcsP_bd a b
    rw [lcsP_cons]
    simp only [List.length_cons] at h2 ⊢
    have m1:=le_mx (lcsP a (y :: b)) (lcsP (x :: a) b)
    have m2:=mx_le (a:=lcsP a (y :: b)) (b:=lcsP (x :: a) b) (c:=a.length+1) (by omega) (by omega)
    split
    · have m3:=le_mx (mx (lcsP a (y :: b)) (lcsP (x :: a) b)) (1+lcsP a b)
      have m4:=mx_le m2 (show 1+lcsP a b≤(a.length:Int)+1 by omega)
      exact ⟨by omega,by simpa using m4⟩
    · exact ⟨by omega,by simpa using m2⟩
termination_by a b=>a.length+b.length
end Go.Proofs.YthnilelmhpmanaaDoor.PHeardFits
end
section
namespace Go.Proofs.YthnilelmhpmanaaDoor.PHeardFits
open Go.RowKit Go.Proofs.YthnilelmhpmanaaDoorW.PrintWords Go.Proofs.YthnilelmhpmanaaDoorW.PrintLast Go.Proofs.YthnilelmhpmanaaDoorW.PrintMore
open Go.Proofs.YthnilelmhpmanaaDoor.Hm
set_option linter.unusedVariables false
set_option linter.unusedSimpArgs false
theorem cell_ne_map {w:World} {B:Nat} {m:SM} {a:Addr} {v:Value} (h:w.cell? a=some v) (hM:MapIs w B m):a.block≠B:=by
  rintro rfl
  obtain ⟨es,clock,hb,_⟩:=hM
  simp [World.cell?,hb] at h
/-- A row of whole numbers, cell by cell. -/
def RdI (w:World) (A:Option Addr) (l:List Int):Prop:=∀ i:Nat,i<l.length→∃ ad,A=some ad∧w.cell? (ad.add i)=some (.int .i64 (rd l i))
theorem RdI.of {w:World} {A:Option Addr} {l:List Int} (h:Kd.C (Kd.int .i64) w A l.length l):RdI w A l:=fun i hi=>by
  obtain ⟨ad,e,hx⟩:=Kd.at_int h (i:Int) (by omega) (by omega)
  rw [Int.toNat_natCast] at hx
  exact ⟨ad,e,hx⟩
theorem RdI.grown {w w':World} {A:Option Addr} {l:List Int} {B:Nat} {m:SM} (h:RdI w A l) (hM:MapIs w B m) (hg:w.grownBy w' (some B)):RdI w' A l:=fun i hi=>by
  obtain ⟨ad,e,hx⟩:=h i hi
  exact ⟨ad,e,hg.cell hx (by simpa using cell_ne_map hx hM)⟩
theorem RdI.below {w w':World} {A:Option Addr} {l:List Int} (h:RdI w A l) (hb:Below w.heap.size w w'):RdI w' A l:=fun i hi=>by
  obtain ⟨ad,e,hx⟩:=h i hi
  exact ⟨ad,e,(hb.cell (World.block_lt_of_cell? w _ hx)).trans hx⟩
/-- What the memory of common holds. -/
def GoodC (a b:List Int) (m:SM):Prop:=∀ c d v,mget m c d=some v→∃ i j:Nat,c=i∧d=j∧v=.int .i64 (lcsP (a.drop i) (b.drop j))
theorem GoodC.put {a b:List Int} {m:SM} (h:GoodC a b m) (i j:Nat) {v:Value} (hv:v=.int .i64 (lcsP (a.drop i) (b.drop j))):GoodC a b (mput m i j v):=by
  intro c d u hu
  rw [mget_put] at hu
  split at hu
  · rename_i hc
    simp only [Option.some.injEq] at hu
    exact ⟨i,j,hc.1,hc.2,by rw [← hu,hv]⟩
  · exact h c d u hu
structure ComSt (a b:List Int) (A1 A2:Option Addr) (c1 c2 p1 p2 p3 p4 B:Nat) (w:World):Prop where
  h1:w.cell? ⟨p1,0,none⟩=some (.slice A1 a.length c1)
  h2:w.cell? ⟨p2,0,none⟩=some (.slice A2 b.length c2)
  h3:w.cell? ⟨p3,0,none⟩=some (.map (some B))
  h4:w.cell? ⟨p4,0,none⟩=some (.func (.func 111) #[] #[.pointer (some ⟨p1,0,none⟩),.pointer (some ⟨p2,0,none⟩),.pointer (some ⟨p3,0,none⟩),.pointer (some ⟨p4,0,none⟩)])
  ra:RdI w A1 a
  rb:RdI w A2 b
  hm:∃ m,MapIs w B m∧GoodC a b m
section
variable {a b:List Int} {A1 A2:Option Addr} {c1 c2 p1 p2 p3 p4 B:Nat} {w w':World}
theorem ComSt.below (h:ComSt a b A1 A2 c1 c2 p1 p2 p3 p4 B w) (hb:Below w.heap.size w w'):ComSt a b A1 A2 c1 c2 p1 p2 p3 p4 B w' where
  h1:=(hb.cell (World.block_lt_of_cell? w _ h.h1)).trans h.h1
  h2:=(hb.cell (World.block_lt_of_cell? w _ h.h2)).trans h.h2
  h3:=(hb.cell (World.block_lt_of_cell? w _ h.h3)).trans h.h3
  h4:=(hb.cell (World.block_lt_of_cell? w _ h.h4)).trans h.h4
  ra:=h.ra.below hb
  rb:=h.rb.below hb
  hm:=by obtain ⟨m,hM,hG⟩:=h.hm;exact ⟨m,hM.below hb,hG⟩
theorem ComSt.grown (h:ComSt a b A1 A2 c1 c2 p1 p2 p3 p4 B w) (hg:w.grownBy w' (some B)) (hm:∃ m,MapIs w' B m∧GoodC a b m):ComSt a b A1 A2 c1 c2 p1 p2 p3 p4 B w':=by
  obtain ⟨m,hM,hG⟩:=h.hm
  exact ⟨hg.cell h.h1 (by simpa using cell_ne_map h.h1 hM),hg.cell h.h2 (by simpa using cell_ne_map h.h2 hM),hg.cell h.h3 (by simpa using cell_ne_map h.h3 hM),hg.cell h.h4 (by simpa using cell_ne_map h.h4 hM),h.ra.grown hM hg,h.rb.grown hM hg,hm⟩
end
theorem zero3 (w:World):(zeroValue 3).run Tryd.prog w=.ok (.int .i64 0) w:=by kernel_rfl
section
variable (a b:List Int) (A1 A2:Option Addr) (c1 c2 p1 p2 p3 p4 B:Nat) (ha:a.length≤1000) (hb:b.length≤1000)
include ha hb
omit ha hb in
theorem com_end1 (j:Nat) (x y:Int) (w:World) (hx:x=a.length) (hy:y=j) (hS:ComSt a b A1 A2 c1 c2 p1 p2 p3 p4 B w) :
    Calls Tryd.prog 111 #[.agg #[.int .i64 x,.int .i64 y],.pointer (some ⟨p1,0,none⟩),.pointer (some ⟨p2,0,none⟩),.pointer (some ⟨p3,0,none⟩),.pointer (some ⟨p4,0,none⟩)] w fun e w' =>
      e=.returned (.int .i64 0)∧w.grownBy w' (some B)∧ComSt a b A1 A2 c1 c2 p1 p2 p3 p4 B w':=by
  subst hx
  subst hy
  have e1:=hS.h1
  have l1:=World.block_lt_of_cell? w _ e1
  simp only at l1
  have HS:=Aside0.mk hS
  clear hS
  go_enter Tryd.func111,Tryd.ntmps111
  go_wp2_with fail
  go_ret
  exact ⟨rfl,World.grownBy_alloc _ _ _,HS.out.below (below_alloc (Below.refl _ w) _)⟩
omit ha hb in
theorem com_end2 (i:Nat) (x y:Int) (w:World) (hx:x=i) (hi:i<a.length) (hy:y=b.length) (hS:ComSt a b A1 A2 c1 c2 p1 p2 p3 p4 B w) :
    Calls Tryd.prog 111 #[.agg #[.int .i64 x,.int .i64 y],.pointer (some ⟨p1,0,none⟩),.pointer (some ⟨p2,0,none⟩),.pointer (some ⟨p3,0,none⟩),.pointer (some ⟨p4,0,none⟩)] w fun e w' =>
      e=.returned (.int .i64 0)∧w.grownBy w' (some B)∧ComSt a b A1 A2 c1 c2 p1 p2 p3 p4 B w':=by
  subst hx
  subst hy
  have k1:((i:Int) == (a.length:Int))=false:=by simp;omega
  have e1:=hS.h1
  have l1:=World.block_lt_of_cell? w _ e1
  have e2:=hS.h2
  have l2:=World.block_lt_of_cell? w _ e2
  simp only at l1 l2
  have HS:=Aside0.mk hS
  clear hS
  go_enter Tryd.func111,Tryd.ntmps111
  go_wp2_with fail
  go_ret
  exact ⟨rfl,World.grownBy_alloc _ _ _,HS.out.below (below_alloc (Below.refl _ w) _)⟩
set_option maxRecDepth 100000 in
set_option maxHeartbeats 2000000 in
theorem com_any:∀ (n i j:Nat) (x y:Int) (w:World),x=i→y=j→(a.length - i)+(b.length - j)≤n→i≤a.length→j≤b.length→ComSt a b A1 A2 c1 c2 p1 p2 p3 p4 B w →
    Calls Tryd.prog 111 #[.agg #[.int .i64 x,.int .i64 y],.pointer (some ⟨p1,0,none⟩),.pointer (some ⟨p2,0,none⟩),.pointer (some ⟨p3,0,none⟩),.pointer (some ⟨p4,0,none⟩)] w fun e w' =>
      e=.returned (.int .i64 (lcsP (a.drop i) (b.drop j)))∧w.grownBy w' (some B)∧ComSt a b A1 A2 c1 c2 p1 p2 p3 p4 B w':=by
  intro n
  induction n with
  | zero =>
    rintro i j _ _ w rfl rfl hn hi hj hS
    obtain rfl:i=a.length:=by omega
    refine (com_end1 a b A1 A2 c1 c2 p1 p2 p3 p4 B j _ _ w rfl rfl hS).mono ?_
    rintro e w' ⟨rfl,h1,h2⟩
    exact ⟨ret_i64 (by rw [List.drop_eq_nil_of_le (Nat.le_refl _)];rfl),h1,h2⟩
  | succ n ih =>
    rintro i j _ _ w rfl rfl hn hi hj hS
    by_cases hia:i=a.length
    · subst hia
      refine (com_end1 a b A1 A2 c1 c2 p1 p2 p3 p4 B j _ _ w rfl rfl hS).mono ?_
      rintro e w' ⟨rfl,h1,h2⟩
      exact ⟨ret_i64 (by rw [List.drop_eq_nil_of_le (Nat.le_refl _)];rfl),h1,h2⟩
    by_cases hjb:j=b.length
    · subst hjb
      refine (com_end2 a b A1 A2 c1 c2 p1 p2 p3 p4 B i _ _ w rfl (by omega) rfl hS).mono ?_
      rintro e w' ⟨rfl,h1,h2⟩
      exact ⟨ret_i64 (by rw [List.drop_length,lcsP_nil2]),h1,h2⟩
    have hlt1:i<a.length:=by omega
    have hlt2:j<b.length:=by omega
    have HI:=Aside0.mk hia
    have HJ:=Aside0.mk hjb
    have k1:((i:Int) == (a.length:Int))=false:=by simp;omega
    have k2:((j:Int) == (b.length:Int))=false:=by simp;omega
    obtain ⟨m,hM,hG⟩:=hS.hm
    have e1:=hS.h1
    have e2:=hS.h2
    have e3:=hS.h3
    have e4:=hS.h4
    have l1:=World.block_lt_of_cell? w _ e1
    have l2:=World.block_lt_of_cell? w _ e2
    have l3:=World.block_lt_of_cell? w _ e3
    have l4:=World.block_lt_of_cell? w _ e4
    simp only at l1 l2 l3 l4
    cases hg:mget m i j with
    | some v =>
      obtain ⟨i',j',hi',hj',rfl⟩:=hG _ _ _ hg
      obtain rfl:i'=i:=by omega
      obtain rfl:j'=j:=by omega
      have HG:=Aside0.mk hg
      have HM:=Aside0.mk hM
      have HS:=Aside0.mk hS
      clear hg hM hG hia hjb hS
      go_enter Tryd.func111,Tryd.ntmps111
      go_wp2_with (first|(at_lookup;refine wp_lookup_spot2 key107 Tryd.underlying157 rfl _ _ rfl B rfl _ _ rfl (HM.out.alloc _) _ (zero3 _) (.int .i64 (lcsP (a.drop i') (b.drop j'))) (by rw [HG.out];rfl) true (by rw [HG.out];rfl) ?_))
      go_ret
      exact ⟨rfl,World.grownBy_alloc _ _ _,HS.out.below (below_alloc (Below.refl _ w) _)⟩
    | none =>
      have HG:=Aside0.mk hg
      have HM:=Aside0.mk hM
      have HS:=Aside0.mk hS
      have HGG:=Aside0.mk hG
      clear hg hM hG hia hjb hS
      go_enter Tryd.func111,Tryd.ntmps111
      go_wp2_with (first|(at_lookup;refine wp_lookup_spot2 key107 Tryd.underlying157 rfl _ _ rfl B rfl _ _ rfl (HM.out.alloc _) _ (zero3 _) (.int .i64 0) (by rw [HG.out];rfl) false (by rw [HG.out];rfl) ?_))
      have x0:(w.alloc (Obj.cells #[Value.int IntKind.i64 ↑i,Value.int IntKind.i64 ↑j] 107)).cell? ⟨w.heap.size,0,none⟩=some (.int .i64 i):=by go_simp
      have x1:(w.alloc (Obj.cells #[Value.int IntKind.i64 ↑i,Value.int IntKind.i64 ↑j] 107)).cell? ⟨w.heap.size,1,none⟩=some (.int .i64 j):=by go_simp
      have HS1:=Aside0.mk (HS.out.below (below_alloc (Below.refl _ w) (Obj.cells #[Value.int IntKind.i64 ↑i,Value.int IntKind.i64 ↑j] 107)))
      have HG1:Aside0 (w.grownBy (w.alloc (Obj.cells #[Value.int IntKind.i64 ↑i,Value.int IntKind.i64 ↑j] 107)) (some B)):=⟨World.grownBy_alloc _ _ _⟩
      have hBb:w.heap.size≠B:=by have:=HM.out.lt;omega
      have HBb:=Aside0.mk hBb
      have k3:(w.alloc (Obj.cells #[Value.int IntKind.i64 ↑i,Value.int IntKind.i64 ↑j] 107)).cell? ⟨p4,0,none⟩=_:=HS1.out.h4
      obtain ⟨w1,hw1⟩:∃ w1,w.alloc (Obj.cells #[Value.int IntKind.i64 ↑i,Value.int IntKind.i64 ↑j] 107)=w1:=⟨_,rfl⟩
      rw [hw1] at x0 x1 HS1 HG1 k3 ⊢
      clear hw1 e1 e2 e3 e4 l1 l2 l3 l4 k1 k2 HM HGG HG hBb HS
      obtain ⟨b0,hb0⟩:∃ b0,w.heap.size=b0:=⟨_,rfl⟩
      rw [hb0] at x0 x1 HBb ⊢
      clear hb0
      have hw1:IntKind.i64.wrap ((i:Int)+1)=(i:Int)+1:=IntWalk.i64_in _ (by omega)
      have hw2:IntKind.i64.wrap ((j:Int)+1)=(j:Int)+1:=IntWalk.i64_in _ (by omega)
      go_region_held3 (fun w'=>w'.cell? ⟨p4,0,none⟩=some (.func (.func 111) #[] #[.pointer (some ⟨p1,0,none⟩),.pointer (some ⟨p2,0,none⟩),.pointer (some ⟨p3,0,none⟩),.pointer (some ⟨p4,0,none⟩)])∧w'.cell? ⟨b0,0,none⟩=some (.int .i64 i)∧w'.cell? ⟨b0,1,none⟩=some (.int .i64 j)) (first|exact ⟨k3,x0,x1⟩|exact ⟨hS2.h4,y0,y1⟩|exact ⟨hS3.h4,z0,z1⟩|go_keep) (first|(go_at_call 111;refine (ih (i+1) j _ _ _ (by push_cast;omega) (by omega) (by omega) (by omega) (by omega) (HS1.out.below (by repeat (first|exact Below.refl _ _|apply below_drew1|apply pw_below_drewN)))).mono ?_;rintro e w2 ⟨rfl,hg2,hS2⟩;have y0:=hg2.cell (a:=⟨b0,0,none⟩) x0 (by simpa using HBb.out);have y1:=hg2.cell (a:=⟨b0,1,none⟩) x1 (by simpa using HBb.out))|(go_at_call 111;refine (ih i (j+1) _ _ _ (by push_cast;omega) (by omega) (by omega) (by omega) (by omega) hS2).mono ?_;rintro e w3 ⟨rfl,hg3,hS3⟩;have z0:=hg3.cell (a:=⟨b0,0,none⟩) y0 (by simpa using HBb.out);have z1:=hg3.cell (a:=⟨b0,1,none⟩) y1 (by simpa using HBb.out))|(go_at_call 81;refine (great_one _ (lcsP (a.drop i) (b.drop (j+1))) _ _ (by go_simp)).mono ?_;rintro e w4 ⟨rfl,⟨nd4,rfl⟩⟩))
      have hS4:=Aside0.mk ((hS3.below (below_alloc (Below.refl _ w3) (Obj.cells #[Value.int IntKind.i64 (lcsP (a.drop i) (b.drop (j+1)))] 3))).below (pw_below_drewN (Below.refl _ _) nd4))
      have hb4:Below w3.heap.size w3 ((w3.alloc (Obj.cells #[Value.int IntKind.i64 (lcsP (a.drop i) (b.drop (j+1)))] 3)).drewN nd4):=pw_below_drewN (below_alloc (Below.refl _ w3) _) nd4
      have x0':=(hb4.cell (World.block_lt_of_cell? w3 _ z0)).trans z0
      have x1':=(hb4.cell (World.block_lt_of_cell? w3 _ z1)).trans z1
      have hG4:=Aside0.mk (((((HG1.out.trans (grown_of_below (below_drew1 (Below.refl _ w1)) (some B))).trans hg2).trans hg3).trans (grown_of_below hb4 (some B))))
      obtain ⟨w4,hw4⟩:∃ w4,(w3.alloc (Obj.cells #[Value.int IntKind.i64 (lcsP (a.drop i) (b.drop (j+1)))] 3)).drewN nd4=w4:=⟨_,rfl⟩
      rw [hw4] at hS4 x0' x1' hG4 ⊢
      clear hw4 hb4 z0 z1 y0 y1 hg2 hg3 hS2 hS3 k3 hw1 hw2 x0 x1
      obtain ⟨ad1,rfl,ea⟩:=hS4.out.ra i hlt1
      obtain ⟨ad2,rfl,eb⟩:=hS4.out.rb j hlt2
      have e1:=hS4.out.h1
      have e2:=hS4.out.h2
      have e3:=hS4.out.h3
      have e4:=hS4.out.h4
      have u1:(0:Int)≤i:=by omega
      have u2:(i:Int)<a.length:=by omega
      have u3:(0:Int)≤j:=by omega
      have u4:(j:Int)<b.length:=by omega
      have hcons:=Aside0.mk (lcsP_cons (rd a i) (rd b j) (a.drop (i+1)) (b.drop (j+1)))
      have bdn:=lcsP_bd (a.drop (i+1)) (b.drop (j+1))
      rw [List.length_drop] at bdn
      have rA:=Aside0.mk (rd_cons a i hlt1)
      have rB:=Aside0.mk (rd_cons b j hlt2)
      by_cases hq:rd a i=rd b j
      · have q1:(rd a i == rd b j)=true:=by simpa using hq
        have HQ:=Aside0.mk hq
        clear hq
        go_wp2_with fail
        go_quiet (fail)
        have hS5:=Aside0.mk (hS4.out.below (pw_below_drewN (Below.refl _ w4) nq))
        have hG5:=Aside0.mk (hG4.out.trans (grown_of_below (pw_below_drewN (Below.refl _ w4) nq) (some B)))
        have x0:(w4.drewN nq).cell? ⟨b0,0,none⟩=some (.int .i64 i):=x0'
        have x1:(w4.drewN nq).cell? ⟨b0,1,none⟩=some (.int .i64 j):=x1'
        have e4:(w4.drewN nq).cell? ⟨p4,0,none⟩=_:=hS5.out.h4
        obtain ⟨w5,hw5⟩:∃ w5,w4.drewN nq=w5:=⟨_,rfl⟩
        rw [hw5] at x0 x1 e4 hS5 hG5 ⊢
        clear hw5 x0' x1' e1 e2 e3 ea eb hS4 hG4 q1
        go_wp2_with fail
        refine (ih (i+1) (j+1) _ _ _ (by push_cast;omega) (by push_cast;omega) (by omega) (by omega) (by omega) hS5.out).mono ?_
        rintro e w6 ⟨rfl,hg6,hS6⟩
        have y0:=hg6.cell (a:=⟨b0,0,none⟩) x0 (by simpa using HBb.out)
        have y1:=hg6.cell (a:=⟨b0,1,none⟩) x1 (by simpa using HBb.out)
        have HS6:=Aside0.mk hS6
        have HG6:=Aside0.mk (hG5.out.trans hg6)
        clear x0 x1 e4 hS5 hG5 hS6 hg6
        go_wp2_with fail
        refine (great_one _ (1+lcsP (a.drop (i+1)) (b.drop (j+1))) _ _ (by go_simp)).mono ?_
        rintro e w7 ⟨rfl,⟨nd7,rfl⟩⟩
        have hb7:Below w6.heap.size w6 ((w6.alloc (Obj.cells #[Value.int IntKind.i64 (1+lcsP (a.drop (i+1)) (b.drop (j+1)))] 3)).drewN nd7):=pw_below_drewN (below_alloc (Below.refl _ w6) _) nd7
        have hS7:=Aside0.mk (HS6.out.below hb7)
        have hG7:=Aside0.mk (HG6.out.trans (grown_of_below hb7 (some B)))
        have z0:=(hb7.cell (World.block_lt_of_cell? w6 _ y0)).trans y0
        have z1:=(hb7.cell (World.block_lt_of_cell? w6 _ y1)).trans y1
        obtain ⟨w7,hw7⟩:∃ w7,(w6.alloc (Obj.cells #[Value.int IntKind.i64 (1+lcsP (a.drop (i+1)) (b.drop (j+1)))] 3)).drewN nd7=w7:=⟨_,rfl⟩
        rw [hw7] at z0 z1 hS7 hG7 ⊢
        clear hw7 hb7 y0 y1 HS6 HG6
        obtain ⟨m7,hM7,hGd7⟩:=hS7.out.hm
        have e3:=hS7.out.h3
        have HM7:=Aside0.mk hM7
        have HD7:=Aside0.mk hGd7
        clear hM7 hGd7
        have hval:Aside0 (mx (mx (lcsP (List.drop (i+1) a) (List.drop j b)) (lcsP (List.drop i a) (List.drop (j+1) b))) (1+lcsP (List.drop (i+1) a) (List.drop (j+1) b))=lcsP (a.drop i) (b.drop j)):=⟨by
          have h0:=hcons.out
          rw [if_pos HQ.out,← rA.out,← rB.out] at h0
          exact h0.symm⟩
        clear hcons bdn
        go_wp2_with (first|(at_mapUpdate;refine wp_update_spot key107 Tryd.underlying157 rfl _ _ _ rfl B rfl _ _ rfl _ rfl HM7.out ?_;intro w9 hM9 hG9 hS9))
        go_ret
        exact ⟨ret_i64 hval.out,hG7.out.trans hG9,hS7.out.grown hG9 ⟨_,hM9,HD7.out.put i j (congrArg (Value.int IntKind.i64) hval.out)⟩⟩
      · have q1:(rd a i == rd b j)=false:=by simpa using hq
        have HQ:=Aside0.mk hq
        clear hq
        go_wp2_with fail
        go_quiet (fail)
        have hS5:=Aside0.mk (hS4.out.below (pw_below_drewN (Below.refl _ w4) nq))
        have hG5:=Aside0.mk (hG4.out.trans (grown_of_below (pw_below_drewN (Below.refl _ w4) nq) (some B)))
        have x0:(w4.drewN nq).cell? ⟨b0,0,none⟩=some (.int .i64 i):=x0'
        have x1:(w4.drewN nq).cell? ⟨b0,1,none⟩=some (.int .i64 j):=x1'
        have e3:(w4.drewN nq).cell? ⟨p3,0,none⟩=_:=hS5.out.h3
        obtain ⟨w5,hw5⟩:∃ w5,w4.drewN nq=w5:=⟨_,rfl⟩
        rw [hw5] at x0 x1 e3 hS5 hG5 ⊢
        clear hw5 x0' x1' e1 e2 e4 ea eb hS4 hG4 q1
        obtain ⟨m7,hM7,hGd7⟩:=hS5.out.hm
        have HM7:=Aside0.mk hM7
        have HD7:=Aside0.mk hGd7
        clear hM7 hGd7
        have hval:Aside0 (mx (lcsP (List.drop (i+1) a) (List.drop j b)) (lcsP (List.drop i a) (List.drop (j+1) b))=lcsP (a.drop i) (b.drop j)):=⟨by
          have h0:=hcons.out
          rw [if_neg HQ.out,← rA.out,← rB.out] at h0
          exact h0.symm⟩
        clear hcons bdn
        go_wp2_with (first|(at_mapUpdate;refine wp_update_spot key107 Tryd.underlying157 rfl _ _ _ rfl B rfl _ _ rfl _ rfl HM7.out ?_;intro w9 hM9 hG9 hS9))
        go_ret
        exact ⟨ret_i64 hval.out,hG5.out.trans hG9,hS5.out.grown hG9 ⟨_,hM9,HD7.out.put i j (congrArg (Value.int IntKind.i64) hval.out)⟩⟩
end
end Go.Proofs.YthnilelmhpmanaaDoor.PHeardFits
end
