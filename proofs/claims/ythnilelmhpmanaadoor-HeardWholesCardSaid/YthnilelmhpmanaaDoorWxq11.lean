/- A part of the proof: contracts and laws. -/
import Derived.ProofKit
import Derived.OpenShut
import Derived.ChangeOld
import Derived.SizedLaws
import Derived.Carry
import Derived.LaidMore
import Derived.Stop.Joined
import Derived.Deep.Slices
import Derived.Deep.Fields
import Derived.Test.YthnilelmhpmanaaDoorRows
import Derived.Test.YthnilelmhpmanaaDoorWxq10
section
namespace Go.Proofs.YthnilelmhpmanaaDoor.PHeardFits
open Go.ChangeShapes Go.WideShapes Go.ChangeAt Go.RowKit
open Go.Proofs.YthnilelmhpmanaaDoorW.PrintWords Go.Proofs.YthnilelmhpmanaaDoorW.PrintLast Go.Proofs.YthnilelmhpmanaaDoorW.PrintMore
set_option linter.unusedVariables false
set_option linter.unusedSimpArgs false
set_option maxRecDepth 100000
/-- Whatever reads as a type's datum has the cells of a value of the kind. -/
def Opens {α:Type} (d:Kd α) (t:TypeId):Prop:=∀ {H:Type} (enc:TypeId×Value→H) (w:World) (fuel:Nat) (cs:List Value) (x:DataW H×List MemPlace),DataW.trod enc Tryd.prog w 0 (fun _=>true) true fuel t cs=some x→∃ a:α,d.K w a cs
theorem opens_int {t:TypeId} (ht:Tryd.prog.underlying t=some (.int .i64)):Opens (Kd.int .i64) t:=by
  intro H enc w fuel cs x h
  obtain ⟨n,rfl,-,-⟩:=DataW.trod_int ht h
  exact ⟨n,rfl⟩
theorem list_of {α:Type} (Q:Nat→α→Prop):∀ n:Nat,(∀ i,i<n→∃ a,Q i a)→∃ xs:List α,xs.length=n∧∀ i a,xs[i]?=some a→Q i a
  | 0,_=>⟨[],rfl,fun i a h=>by simp at h⟩
  | n+1,h=>by
    obtain ⟨xs,hl,hx⟩:=list_of Q n (fun i hi=>h i (by omega))
    obtain ⟨a,ha⟩:=h n (by omega)
    refine ⟨xs ++ [a],by simp [hl],fun i b hb=>?_⟩
    by_cases hi:i<n
    · rw [List.getElem?_append_left (by omega)] at hb
      exact hx i b hb
    · rw [List.getElem?_append_right (by omega)] at hb
      have hin:i=n:=by
        have:=(List.getElem?_eq_some_iff.1 hb).1
        simp at this;omega
      subst hin
      rw [hl] at hb
      simp at hb
      rw [← hb];exact ha
theorem opens_slice {α:Type} {d:Kd α} {t e:TypeId} (ht:Tryd.prog.underlying t=some (.slice e)) (hC:Tryd.prog.cellsOf e=d.sz) (he:Opens d e):Opens (Kd.slice e d) t:=by
  intro H enc w fuel cs x h
  rcases Go.Deep.open_slice ht h with ⟨rfl,-⟩ | ⟨a,len,cap,m,n,D,Pl,rfl,-,hl,hm,hmm,-,hi⟩
  · exact ⟨[],none,0,rfl,Nat.le_refl _,Kd.C_nil d w⟩
  · have hlm:len≤m:=by rw [hmm];split <;> omega
    obtain ⟨xs,hxl,hx⟩:=list_of (fun i a'=>∃ c:List Value,c.length=d.sz∧d.K w a' c∧∀ j u,c[j]?=some u→w.cell? (a.add (i * d.sz+j))=some u) len (fun i hil=>by
      obtain ⟨cs',hc,ht'⟩:=hi i (by omega)
      obtain ⟨a',hk⟩:=he enc w n cs' _ ht'
      obtain ⟨_,hcl,hat⟩:=World.cells?_some hc
      refine ⟨a',cs',by rw [hcl,hC],hk,fun j u hj=>?_⟩
      have hjl:j<Tryd.prog.cellsOf e:=by have:=(List.getElem?_eq_some_iff.1 hj).1;omega
      have h2:=hat j hjl
      rw [← Go.Deep.add_add,← hC]
      rw [h2,← hj]
      )
    refine ⟨xs,some a,cap,by rw [hxl],by omega,rfl,by rw [hxl];unfold maxLen at hm;omega,fun _=>⟨a,rfl,fun j p hj=>hx j p hj⟩⟩
theorem c3:Tryd.prog.cellsOf 3=1:=by kernel_rfl
theorem c28:Tryd.prog.cellsOf 28=1:=by kernel_rfl
theorem c78:Tryd.prog.cellsOf 78=1:=by kernel_rfl
theorem c22:Tryd.prog.cellsOf 22=1:=by kernel_rfl
theorem c25:Tryd.prog.cellsOf 25=1:=by kernel_rfl
theorem c24:Tryd.prog.cellsOf 24=2:=by kernel_rfl
theorem c85:Tryd.prog.cellsOf 85=2:=by kernel_rfl
theorem c62:Tryd.prog.cellsOf 62=2:=by kernel_rfl
theorem c27:Tryd.prog.cellsOf 27=3:=by kernel_rfl
theorem c30:Tryd.prog.cellsOf 30=4:=by kernel_rfl
theorem two_of {cs:List Value} (h:cs.length=2):∃ a b,cs=[a,b]:=by
  match cs,h with
  | [a,b],_=>exact ⟨a,b,rfl⟩
theorem three_of {cs:List Value} (h:cs.length=3):∃ a b c,cs=[a,b,c]:=by
  match cs,h with
  | [a,b,c],_=>exact ⟨a,b,c,rfl⟩
theorem one_some {α:Type} {o:Option α} {n:Nat} {xs:List α} {i:Nat} (h:o=xs[i]?) (hl:xs.length=n) (hi:i<n):∃ y,o=some y:=by
  rw [List.getElem?_eq_getElem (by omega)] at h
  exact ⟨_,h⟩
theorem opens28:Opens (Kd.slice 3 (Kd.int .i64)) 28:=opens_slice Tryd.underlying28 (by kernel_rfl) (opens_int Tryd.underlying3)
theorem opens78:Opens (Kd.slice 28 (Kd.slice 3 (Kd.int .i64))) 78:=opens_slice Tryd.underlying78 (by kernel_rfl) opens28
theorem opens85:Opens k85 85:=by
  intro H enc w fuel cs x h
  obtain ⟨xs,n,-,-,hl,hxl,hf⟩:=DataW.trod_struct Tryd.underlying85 h
  obtain ⟨a,b,rfl⟩:=two_of (hl.trans c85)
  have k0 := hf 0 { name := "Beats", type := 3, offset := 0, embedded := false, tag := "", pkgPath := "", byteOffset := 0 } rfl
  simp only [c3,c28,c78,c22,c25,c24,List.drop_zero,List.drop_succ_cons,List.take_succ_cons,List.take_zero] at k0
  obtain ⟨y0,h0⟩:=one_some k0 hxl (by decide)
  have k1 := hf 1 { name := "Strokes", type := 78, offset := 1, embedded := false, tag := "", pkgPath := "", byteOffset := 8 } rfl
  simp only [c3,c28,c78,c22,c25,c24,List.drop_zero,List.drop_succ_cons,List.take_succ_cons,List.take_zero] at k1
  obtain ⟨y1,h1⟩:=one_some k1 hxl (by decide)
  obtain ⟨p,hp⟩:=opens_int Tryd.underlying3 enc w n _ _ h0
  obtain ⟨q,hq⟩:=opens78 enc w n _ _ h1
  have hp':[a]=[.int .i64 p]:=hp
  have hq':(Kd.slice 28 (Kd.slice 3 (Kd.int .i64))).K w q [b]:=hq
  obtain ⟨A,c,hb,hlc,hC⟩:=hq'
  simp only [List.cons.injEq,and_true] at hp' hb
  subst hp' hb
  exact ⟨⟨p,q⟩,k85_mk w ⟨p,q⟩ hlc hC⟩
theorem opens62:Opens k62 62:=by
  intro H enc w fuel cs x h
  obtain ⟨xs,n,-,-,hl,hxl,hf⟩:=DataW.trod_struct Tryd.underlying62 h
  obtain ⟨a,b,rfl⟩:=two_of (hl.trans c62)
  have k0 := hf 0 { name := "Form", type := 3, offset := 0, embedded := false, tag := "", pkgPath := "", byteOffset := 0 } rfl
  simp only [c3,c28,c78,c22,c25,c24,List.drop_zero,List.drop_succ_cons,List.take_succ_cons,List.take_zero] at k0
  obtain ⟨y0,h0⟩:=one_some k0 hxl (by decide)
  have k1 := hf 1 { name := "Tones", type := 28, offset := 1, embedded := false, tag := "", pkgPath := "", byteOffset := 8 } rfl
  simp only [c3,c28,c78,c22,c25,c24,List.drop_zero,List.drop_succ_cons,List.take_succ_cons,List.take_zero] at k1
  obtain ⟨y1,h1⟩:=one_some k1 hxl (by decide)
  obtain ⟨p,hp⟩:=opens_int Tryd.underlying3 enc w n _ _ h0
  obtain ⟨q,hq⟩:=opens28 enc w n _ _ h1
  have hp':[a]=[.int .i64 p]:=hp
  have hq':(Kd.slice 3 (Kd.int .i64)).K w q [b]:=hq
  obtain ⟨A,c,hb,hlc,hC⟩:=hq'
  simp only [List.cons.injEq,and_true] at hp' hb
  subst hp' hb
  exact ⟨⟨p,q⟩,k62_mk w ⟨p,q⟩ hlc hC⟩
theorem opens22:Opens (Kd.slice 85 k85) 22:=opens_slice Tryd.underlying22 (by kernel_rfl) opens85
theorem opens25:Opens (Kd.slice 62 k62) 25:=opens_slice Tryd.underlying25 (by kernel_rfl) opens62
theorem opens24:Opens k24 24:=by
  intro H enc w fuel cs x h
  obtain ⟨xs,n,-,-,hl,hxl,hf⟩:=DataW.trod_struct Tryd.underlying24 h
  obtain ⟨a,b,rfl⟩:=two_of (hl.trans c24)
  have k0 := hf 0 { name := "Gongs", type := 3, offset := 0, embedded := false, tag := "", pkgPath := "", byteOffset := 0 } rfl
  simp only [c3,c28,c78,c22,c25,c24,List.drop_zero,List.drop_succ_cons,List.take_succ_cons,List.take_zero] at k0
  obtain ⟨y0,h0⟩:=one_some k0 hxl (by decide)
  have k1 := hf 1 { name := "Forms", type := 22, offset := 1, embedded := false, tag := "", pkgPath := "", byteOffset := 8 } rfl
  simp only [c3,c28,c78,c22,c25,c24,List.drop_zero,List.drop_succ_cons,List.take_succ_cons,List.take_zero] at k1
  obtain ⟨y1,h1⟩:=one_some k1 hxl (by decide)
  obtain ⟨p,hp⟩:=opens_int Tryd.underlying3 enc w n _ _ h0
  obtain ⟨q,hq⟩:=opens22 enc w n _ _ h1
  have hp':[a]=[.int .i64 p]:=hp
  have hq':(Kd.slice 85 k85).K w q [b]:=hq
  obtain ⟨A,c,hb,hlc,hC⟩:=hq'
  simp only [List.cons.injEq,and_true] at hp' hb
  subst hp' hb
  exact ⟨⟨p,q⟩,k24_mk w ⟨p,q⟩ hlc hC⟩
theorem opens27:Opens k27 27:=by
  intro H enc w fuel cs x h
  obtain ⟨xs,n,-,-,hl,hxl,hf⟩:=DataW.trod_struct Tryd.underlying27 h
  obtain ⟨a,b,c,rfl⟩:=three_of (hl.trans c27)
  have k0 := hf 0 { name := "Forms", type := 24, offset := 0, embedded := false, tag := "", pkgPath := "", byteOffset := 0 } rfl
  simp only [c3,c28,c78,c22,c25,c24,List.drop_zero,List.drop_succ_cons,List.take_succ_cons,List.take_zero] at k0
  obtain ⟨y0,h0⟩:=one_some k0 hxl (by decide)
  have k1 := hf 1 { name := "Pieces", type := 25, offset := 2, embedded := false, tag := "", pkgPath := "", byteOffset := 32 } rfl
  simp only [c3,c28,c78,c22,c25,c24,List.drop_zero,List.drop_succ_cons,List.take_succ_cons,List.take_zero] at k1
  obtain ⟨y1,h1⟩:=one_some k1 hxl (by decide)
  obtain ⟨p,hp⟩:=opens24 enc w n _ _ h0
  obtain ⟨q,hq⟩:=opens25 enc w n _ _ h1
  have hp':k24.K w p [a,b]:=hp
  obtain ⟨A1,c1,hab,hl1,hC1⟩:=k24_open hp'
  have hq':(Kd.slice 62 k62).K w q [c]:=hq
  obtain ⟨A,c',hc,hlc,hC⟩:=hq'
  simp only [List.cons.injEq,and_true] at hab hc
  obtain ⟨rfl,rfl⟩:=hab
  subst hc
  exact ⟨⟨p,q⟩,k27_mk w ⟨p,q⟩ hl1 hC1 hlc hC⟩
section
variable {H:Type} {enc:TypeId×Value→H} {W:World} {v:Value} {d:DataW H} {p:List MemPlace} {base:Nat}
/-- A book. -/
theorem arg27 (hv:Value.okWide Tryd.prog W .any base 27 v) (h:DataW.Trod enc Tryd.prog W 0 (fun _=>true) true 27 v d p) :
    ∃ (g:Int) (Af:Option Addr) (cf:Nat) (fs:List S85) (Ap:Option Addr) (cp:Nat) (ps:List S62),v=.agg #[.int .i64 g,.slice Af fs.length cf,.slice Ap ps.length cp]∧Kd.C k85 W Af fs.length fs∧fs.length≤cf∧Kd.C k62 W Ap ps.length ps∧ps.length≤cp:=by
  obtain ⟨cs,rfl,-⟩:=okWide_struct Tryd.underlying27 hv
  obtain ⟨fuel,hf⟩:=h
  obtain ⟨x,hx⟩:=opens27 enc W fuel _ _ hf
  obtain ⟨A1,c1,A2,c2,hcs,l1,g1,l2,g2⟩:=k27_open hx
  have hcs2:cs=#[.int .i64 x.f0.f0,.slice A1 x.f0.f1.length c1,.slice A2 x.f1.length c2]:=by
    apply Array.toList_inj.1
    simpa [Value.cells] using hcs
  exact ⟨_,_,_,_,_,_,_,by rw [hcs2],g1,l1,g2,l2⟩
/-- Numbers. -/
theorem arg28 (hv:Value.okWide Tryd.prog W .any base 28 v) (h:DataW.Trod enc Tryd.prog W 0 (fun _=>true) true 28 v d p) :
    ∃ (A:Option Addr) (c:Nat) (l:List Int),v=.slice A l.length c∧Kd.C (Kd.int .i64) W A l.length l∧l.length≤c:=by
  obtain ⟨a,len,cap,rfl⟩:=okWide_slice Tryd.underlying28 hv
  obtain ⟨fuel,hf⟩:=h
  obtain ⟨xs,A,c,hcs,hl,hC⟩:=opens28 enc W fuel _ _ hf
  have h2:(Value.slice a len cap)=.slice A xs.length c:=by simpa [Value.cells] using hcs
  exact ⟨A,c,xs,h2,hC,hl⟩
end
theorem okWide_array {n:Nat} {e t:TypeId} {W:World} {base:Nat} {v:Value} (ht:Tryd.prog.underlying t=some (.array n e)) (h:Value.okWide Tryd.prog W .any base t v):∃ cs,v=.agg cs:=by
  simp only [Value.okWide,ht] at h
  obtain ⟨cs,h1,_⟩:=h
  exact ⟨cs,h1⟩
/-- Three numbers. -/
theorem arg49 {H:Type} {enc:TypeId×Value→H} {W:World} {v:Value} {d:DataW H} {p:List MemPlace} {base:Nat} (hv:Value.okWide Tryd.prog W .any base 49 v) (h:DataW.Trod enc Tryd.prog W 0 (fun _=>true) true 49 v d p) :
    ∃ (a b c:Int),v=.agg #[.int .i64 a,.int .i64 b,.int .i64 c]∧(Lit.int .i64 a).wf=true∧(Lit.int .i64 b).wf=true∧(Lit.int .i64 c).wf=true:=by
  obtain ⟨cs,rfl⟩:=okWide_array Tryd.underlying49 hv
  obtain ⟨fuel,hf⟩:=h
  obtain ⟨xs,m,-,-,hl,hxl,hi⟩:=DataW.trod_array Tryd.underlying49 hf
  obtain ⟨v0,v1,v2,hcs⟩:=three_of (hl.trans (show Tryd.prog.cellsOf 49=3 from by kernel_rfl))
  have hcs':cs=#[v0,v1,v2]:=by
    apply Array.toList_inj.1
    simpa [Value.cells] using hcs
  have k0:=hi 0 (by decide)
  have k1:=hi 1 (by decide)
  have k2:=hi 2 (by decide)
  simp only [hcs,c3,Nat.zero_mul,Nat.one_mul,Nat.mul_one,List.drop_zero,List.drop_succ_cons,List.take_succ_cons,List.take_zero] at k0 k1 k2
  obtain ⟨y0,h0⟩:=one_some k0 hxl (by decide)
  obtain ⟨y1,h1⟩:=one_some k1 hxl (by decide)
  obtain ⟨y2,h2⟩:=one_some k2 hxl (by decide)
  obtain ⟨a,ha,-,wa⟩:=DataW.trod_int Tryd.underlying3 h0
  obtain ⟨b,hb,-,wb⟩:=DataW.trod_int Tryd.underlying3 h1
  obtain ⟨c,hc,-,wc⟩:=DataW.trod_int Tryd.underlying3 h2
  simp only [List.cons.injEq,and_true] at ha hb hc
  exact ⟨a,b,c,by rw [hcs',ha,hb,hc],wa,wb,wc⟩
theorem gOffs : Tryd.prog.globalNamed "saron/heard.offs" = some 1 := by kernel_rfl
theorem tOffs:(Tryd.prog.globals[1]?).map (·.type)=some 189:=by kernel_rfl
theorem cells188:Tryd.prog.cellsOf 188=1:=by kernel_rfl
def laid1 : List (String × DataW Unit) := [("saron/heard.offs", Rows.laid_saron_heard_offs)]
/-- The door's own heap meets the condition. -/
theorem door_met (os:Os) (args:Array Value):laidMetH Tryd.prog laid1 ((World.doorLaid Tryd.prog 600 os).forCall (fun _ _=>0) ⟨#[],args,[]⟩).memory :=
  laidMetH_of_parts3 (fuel:=8) (laidMet_of_run' 8 (by kernel_rfl) (by kernel_rfl)) (by kernel_rfl) (by kernel_rfl)
/-- What the condition gives the walks. -/
theorem glob_of {W:World} (h:laidMetH Tryd.prog laid1 W):GlobIs W:=by
  obtain ⟨g,t,cs,fuel,p,hg,ht,hv,hd⟩:=h.funcs (List.mem_singleton.2 rfl)
  obtain rfl:=Option.some.inj (gOffs.symm.trans hg)
  obtain rfl:=Option.some.inj (tOffs.symm.trans ht)
  have hd':DataW.trod (funcToken Tryd.prog) Tryd.prog W 0 (fun _=>true) true fuel 189 cs.toList=some (.agg [.held [40,115,97,114,111,110,47,104,101,97,114,100,46,98,111,111,107,41,46,114,105,103,104,116],.held [40,115,97,114,111,110,47,104,101,97,114,100,46,98,111,111,107,41,46,119,114,111,110,103]],p):=hd
  obtain ⟨xs,m,-,hx,hl,hxl,hi⟩:=DataW.trod_array Tryd.underlying189 hd'
  rw [show Tryd.prog.cellsOf 189=2 from by kernel_rfl] at hl
  obtain ⟨v0,v1,hcs⟩:=two_of hl
  have k0:=hi 0 (by decide)
  have k1:=hi 1 (by decide)
  simp only [hcs,cells188,Nat.zero_mul,Nat.one_mul,List.drop_zero,List.drop_succ_cons,List.take_succ_cons,List.take_zero] at k0 k1
  simp only [Prod.mk.injEq,DataW.agg.injEq] at hx
  match xs,hxl with
  | [x0,x1],_ =>
    obtain ⟨d0,p0⟩:=x0
    obtain ⟨d1,p1⟩:=x1
    simp only [List.map_cons,List.map_nil,List.cons.injEq,and_true] at hx
    obtain ⟨⟨rfl,rfl⟩,-⟩:=hx
    obtain rfl:=func_of_trod (f0:=168) Tryd.underlying188 (by kernel_rfl) k0
    obtain rfl:=func_of_trod (f0:=169) Tryd.underlying188 (by kernel_rfl) k1
    have hca:cs=#[.func (.func 168) #[] #[],.func (.func 169) #[] #[]]:=by
      apply Array.toList_inj.1
      simpa using hcs
    have h0:=World.var?_cell hg hv 0
    have h1:=World.var?_cell hg hv 1
    rw [hca] at h0 h1
    exact ⟨by simpa using h0,by simpa using h1⟩
end Go.Proofs.YthnilelmhpmanaaDoor.PHeardFits
end
