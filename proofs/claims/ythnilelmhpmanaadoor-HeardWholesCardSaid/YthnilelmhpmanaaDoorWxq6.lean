/- A part of the proof: contracts and laws. -/
import Derived.Maps.Own
import Derived.Maps.OwnOps
import Derived.Test.YthnilelmhpmanaaDoorWxq3
section
namespace Go.Proofs.YthnilelmhpmanaaDoor.Hm
open Go Go.RowKit Go.Proofs.YthnilelmhpmanaaDoorW.PrintWords
set_option linter.unusedVariables false
set_option linter.unusedSimpArgs false
/-- A key. -/
def ks (a b:Int):Value:=.agg #[.int .i64 a,.int .i64 b]
structure SpotKey (P:Program) (t:TypeId):Prop where
  eq:∀ (w:World) (a b c d:Int),(Op.equal t (ks a b) (ks c d)).run P w=.ok (a == c && b == d) w
  check:∀ (w:World) (em:Bool) (a b:Int),(Instr.checkKey em 10000 t (ks a b)).run P w=.ok () w
  under:∃ fs,P.underlying t=some (.struct fs)
abbrev SM:=List ((Int×Int)×Value)
def mget:SM→Int→Int→Option Value
  | [],_,_=>none
  | x :: m,a,b=>if a == x.1.1 && b == x.1.2 then some x.2 else mget m a b
def mput:SM→Int→Int→Value→SM
  | [],a,b,v=>[((a,b),v)]
  | x :: m,a,b,v=>if a == x.1.1 && b == x.1.2 then ((a,b),v) :: m else x :: mput m a b v
theorem mget_put (m:SM) (a b:Int) (v:Value) (c d:Int):mget (mput m a b v) c d=if c=a∧d=b then some v else mget m c d:=by
  induction m with
  | nil=>simp [mput,mget]
  | cons x m ih =>
    unfold mput
    by_cases h:(a == x.1.1 && b == x.1.2)=true
    · rw [if_pos h]
      simp only [Bool.and_eq_true,beq_iff_eq] at h
      obtain ⟨h1,h2⟩:=h
      simp only [mget,← h1,← h2,Bool.and_eq_true,beq_iff_eq]
      by_cases hc:c=a∧d=b <;> simp [hc]
    · rw [if_neg h]
      simp only [mget]
      by_cases hc:(c == x.1.1 && d == x.1.2)=true
      · rw [if_pos hc,if_pos hc]
        simp only [Bool.and_eq_true,beq_iff_eq] at hc h
        rw [if_neg (by rintro ⟨rfl,rfl⟩;exact h hc)]
      · rw [if_neg hc,if_neg hc,ih]
/-- The entries tell the list. -/
def Ents (es:List MapEntry) (m:SM):Prop:=es.map (fun e=>(e.key,e.val))=m.map (fun x=>(ks x.1.1 x.1.2,x.2))
def mfind:SM→Int→Int→Nat→Option (Nat×Value)
  | [],_,_,_=>none
  | x :: m,a,b,i=>if a == x.1.1 && b == x.1.2 then some (i,x.2) else mfind m a b (i+1)
theorem mfind_get (m:SM) (a b:Int):∀ i,(mfind m a b i).map (·.2)=mget m a b:=by
  induction m with
  | nil=>intro i;rfl
  | cons x m ih =>
    intro i
    unfold mfind mget
    by_cases h:(a == x.1.1 && b == x.1.2)=true
    · rw [if_pos h,if_pos h];rfl
    · rw [if_neg h,if_neg h,ih]
section
variable {P:Program} {t:TypeId} (K:SpotKey P t)
include K
theorem run_asking (w:World) (a b:Int):∀ (es:List MapEntry) (m:SM) (i:Nat),Ents es m→(Instr.findAsking t (ks a b) es i).run P w=.ok (mfind m a b i) w:=by
  intro es
  induction es with
  | nil=>intro m i h;cases m with
    | nil=>simp [Instr.findAsking,mfind]
    | cons x m=>simp [Ents] at h
  | cons e es ih=>intro m i h;cases m with
    | nil=>simp [Ents] at h
    | cons x m =>
      simp only [Ents,List.map_cons,List.cons.injEq,Prod.mk.injEq] at h
      obtain ⟨⟨h1,h2⟩,h3⟩:=h
      have hi:=ih m (i+1) h3
      simp only [Instr.findAsking,Sem.run_bind,h1,K.eq,Result.andThen_ok,mfind]
      by_cases hc:(a == x.1.1 && b == x.1.2)=true
      · rw [if_pos hc,if_pos hc];simp [h2]
      · rw [if_neg hc,if_neg hc];exact hi
theorem run_find (w:World) (a b:Int) (es:List MapEntry) (m:SM) (h:Ents es m):(Instr.findKey t (ks a b) es).run P w=.ok (mfind m a b 0) w:=by
  obtain ⟨fs,hu⟩:=K.under
  have hn:Instr.findNow (.struct fs) (ks a b) es 0=none∨(es=[]∧Instr.findNow (.struct fs) (ks a b) es 0=some none):=by
    cases es with
    | nil=>right;exact ⟨rfl,rfl⟩
    | cons e es=>left;rfl
  have ha:=run_asking K w a b es m 0 h
  simp only [Instr.findKey,Sem.run_bind,run_underlying hu,Result.andThen_ok]
  rcases hn with hn | ⟨rfl,hn⟩
  · rw [hn];exact ha
  · rw [hn]
    cases m with
    | nil=>simp [mfind]
    | cons x m=>simp [Ents] at h
end
def MapIs (w:World) (B:Nat) (m:SM):Prop:=∃ es clock,w.heap[B]?=some (.map es clock)∧Ents es.toList m
theorem MapIs.block {w w':World} {B:Nat} {m:SM} (h:MapIs w B m) (hb:w'.heap[B]?=w.heap[B]?):MapIs w' B m:=by
  obtain ⟨es,clock,h1,h2⟩:=h
  exact ⟨es,clock,hb.trans h1,h2⟩
theorem MapIs.lt {w:World} {B:Nat} {m:SM} (h:MapIs w B m):B<w.heap.size:=by
  obtain ⟨es,clock,h1,h2⟩:=h
  exact (Array.getElem?_eq_some_iff.1 h1).1
theorem MapIs.alloc {w:World} {B:Nat} {m:SM} (h:MapIs w B m) (o:Obj):MapIs (w.alloc o) B m:=by
  refine h.block ?_
  exact Below.heap_alloc w o B h.lt
theorem MapIs.setCell {w:World} {B:Nat} {m:SM} (h:MapIs w B m) (p:Addr) (v:Value):MapIs (w.setCell p v) B m:=by
  obtain ⟨es,clock,h1,h2⟩:=h
  refine ⟨es,clock,?_,h2⟩
  simp only [World.setCell,Array.getElem?_modify,h1]
  split <;> simp
theorem MapIs.drewN {w:World} {B:Nat} {m:SM} (h:MapIs w B m) (n:Nat):MapIs (w.drewN n) B m:=h
theorem MapIs.drew {w:World} {B:Nat} {m:SM} (h:MapIs w B m):MapIs w.drew B m:=h
theorem MapIs.below {w w':World} {B:Nat} {m:SM} (h:MapIs w B m) (hb:Below w.heap.size w w'):MapIs w' B m:=h.block (hb.block B h.lt)
theorem MapIs.made (w:World):MapIs (w.alloc (.map #[] 0)) w.heap.size []:=⟨#[],0,heap_alloc_new w _,rfl⟩
theorem sameBits_ks (a b c d:Int):Instr.sameBits 10000 (ks a b) (ks c d)=(a == c && b == d):=by
  simp [ks,Instr.sameBits]
theorem Ents.put_none {m:SM} {a b:Int}:∀ {es:List MapEntry},Ents es m→mget m a b=none→∀ v,mput m a b v=m ++ [((a,b),v)]:=by
  induction m with
  | nil=>intro es h hm v;rfl
  | cons x m ih =>
    intro es h hm v
    unfold mget at hm
    split at hm
    · simp at hm
    · rename_i hc
      cases es with
      | nil=>simp [Ents] at h
      | cons e es =>
        simp only [Ents,List.map_cons,List.cons.injEq] at h
        unfold mput
        rw [if_neg hc,ih h.2 hm];rfl
theorem find_put {m:SM} {a b:Int}:∀ {i j:Nat} {v:Value},mfind m a b i=some (j,v)→i≤j∧∃ y,m[j - i]?=some ((a,b),y)∧∀ u,mput m a b u=m.set (j - i) ((a,b),u):=by
  induction m with
  | nil=>intro i j v h;simp [mfind] at h
  | cons x m ih =>
    intro i j v h
    unfold mfind at h
    split at h
    · rename_i hc
      simp only [Option.some.injEq,Prod.mk.injEq] at h
      obtain ⟨rfl,rfl⟩:=h
      simp only [Bool.and_eq_true,beq_iff_eq] at hc
      refine ⟨Nat.le_refl _,x.2,?_,fun u=>?_⟩
      · simp [hc.1,hc.2]
      · unfold mput;rw [if_pos (by simp [hc.1,hc.2])];simp
    · rename_i hc
      obtain ⟨h1,y,h2,h3⟩:=ih h
      have e:j - i=(j - (i+1))+1:=by omega
      refine ⟨by omega,y,by rw [e];simpa using h2,fun u=>?_⟩
      unfold mput
      rw [if_neg hc,h3,e];rfl
section
variable {P:Program} {T t e:TypeId} (K:SpotKey P t) (hT:P.underlying T=some (.map t e))
include K hT
theorem run_lookup {w:World} {B:Nat} {m:SM} (h:MapIs w B m) {z:Value} (hz:(zeroValue e).run P w=.ok z w) (a b:Int) (ok:Bool) :
    (Instr.lookup T (.map (some B)) (ks a b) ok).run P w=.ok (if ok then .tuple #[(mget m a b).getD z,.bool (mget m a b).isSome] else (mget m a b).getD z) w:=by
  obtain ⟨es,clock,h1,h2⟩:=h
  have hf:=run_find K w a b es.toList m h2
  have hg:=mfind_get m a b 0
  have ho:(getObj B).run P w=.ok (.map es clock) w:=by simp [getObj,Sem.run,h1]
  simp only [Instr.lookup,Sem.run_bind,run_underlying hT,Result.andThen_ok,ho,K.check,hf]
  cases hm:mfind m a b 0 with
  | none =>
    rw [hm] at hg
    simp only [Option.map_none] at hg
    simp only [← hg]
    cases ok <;> simp [hf,hm,hz]
  | some x =>
    obtain ⟨j,v⟩:=x
    rw [hm] at hg
    simp only [Option.map_some] at hg
    simp only [← hg]
    cases ok <;> simp [hf,hm]
theorem run_update {w:World} {B:Nat} {m:SM} (h:MapIs w B m) (a b:Int) (v:Value) :
    ∃ w',(Instr.mapUpdate T (.map (some B)) (ks a b) v).run P w=.ok () w'∧MapIs w' B (mput m a b v)∧w.grownBy w' (some B)∧w'.heap.size=w.heap.size:=by
  obtain ⟨es,clock,h1,h2⟩:=h
  have hf:=run_find K w a b es.toList m h2
  have hg:=mfind_get m a b 0
  have ho:(getObj B).run P w=.ok (.map es clock) w:=by simp [getObj,Sem.run,h1]
  have hB:=(Array.getElem?_eq_some_iff.1 h1).1
  have hset:∀ o:Obj,(setObj B o).run P w=.ok () { w with heap:=w.heap.setIfInBounds B o }:=fun o=>by simp [setObj,Sem.run,h1]
  have hgr:∀ o:Obj,w.grownBy { w with heap:=w.heap.setIfInBounds B o } (some B):=fun o=>⟨rfl,rfl,rfl,by simp,fun k hk hne=>by
    have hkb:B≠k:=fun hh=>hne (by rw [hh])
    simp [Array.getElem?_setIfInBounds_ne hkb]⟩
  simp only [Instr.mapUpdate,Sem.run_bind,run_underlying hT,Result.andThen_ok,ho,K.check,hf]
  cases hm:mfind m a b 0 with
  | none =>
    rw [hm] at hg
    simp only [Option.map_none] at hg
    simp only [hset]
    refine ⟨_,rfl,⟨_,_,by simp [hB];exact ⟨rfl,rfl⟩,?_⟩,hgr _,by simp⟩
    have h2':=h2
    rw [Ents.put_none h2 hg.symm]
    simp only [Ents,Array.toList_push,List.map_append,List.map_cons,List.map_nil]
    rw [show es.toList.map (fun e=>(e.key,e.val))=_ from h2']
  | some x =>
    obtain ⟨j,y⟩:=x
    obtain ⟨_,u,hu,hp⟩:=find_put hm
    simp only [Nat.sub_zero] at hu hp
    have hmap:(es.toList[j]?).map (fun e=>(e.key,e.val))=some (ks a b,u):=by
      have:=congrArg (fun l=>l[j]?) (show es.toList.map (fun e=>(e.key,e.val))=_ from h2)
      simp only [List.getElem?_map,hu,Option.map_some] at this
      exact this
    cases he:es[j]? with
    | none=>rw [Array.getElem?_toList,he] at hmap;simp at hmap
    | some en =>
      rw [Array.getElem?_toList,he] at hmap
      simp only [Option.map_some,Option.some.injEq,Prod.mk.injEq] at hmap
      have hk:(Instr.keyThatStays en.key (ks a b)).run P w=.ok (ks a b) w:=by
        simp [Instr.keyThatStays,hmap.1,sameBits_ks]
      simp only [he,Option.map_some,Option.getD_some,Sem.run_bind,hk,Result.andThen_ok,hset]
      refine ⟨_,rfl,⟨_,_,by simp [hB];exact ⟨rfl,rfl⟩,?_⟩,hgr _,by simp⟩
      rw [hp]
      have h2':es.toList.map (fun e=>(e.key,e.val))=m.map (fun x=>(ks x.1.1 x.1.2,x.2)):=h2
      unfold Ents
      refine List.ext_getElem? fun i=>?_
      have h3:=congrArg (fun l=>l[i]?) h2'
      simp only [List.getElem?_map] at h3
      simp only [List.getElem?_map,Array.getElem?_toList,Array.getElem?_modify,List.getElem?_set]
      by_cases hij:j=i
      · subst hij
        have hlt:j<m.length:=(List.getElem?_eq_some_iff.1 hu).1
        simp [he,hlt]
      · simp only [hij,if_false]
        rw [Array.getElem?_toList] at h3
        exact h3
theorem wp_lookup_spot {w:World} {ops:Array Oper} {rest:List Oper} {o:Oper} {a:Act} {Q:Exit→Act→World→Prop}
    (hg:o.guard=none) (mo x:Operand) (ok:Bool) (hop:o.op=Op.lookup T mo x ok) (B:Nat) (hm:a.eval mo=.map (some B)) (c d:Int) (hx:a.eval x=ks c d) {m:SM} (h:MapIs w B m) (z:Value) (hz:(zeroValue e).run P w=.ok z w)
    (hK:wpList P ops Q rest (a.put o.dst (if ok then .tuple #[(mget m c d).getD z,.bool (mget m c d).isSome] else (mget m c d).getD z)) w) :
    wpList P ops Q (o :: rest) a w:=by
  refine wpList_plain hg fun K' hK'=>?_
  have hrun:=run_lookup K hT h hz c d ok
  unfold Oper.wp
  simp only [execOp,hop,hm,hx]
  simp only [Sem.run_bind,hrun,Result.andThen]
  exact hK' _ _ hK
theorem wp_lookup_spot1 {w:World} {ops:Array Oper} {rest:List Oper} {o:Oper} {a:Act} {Q:Exit→Act→World→Prop}
    (hg:o.guard=none) (mo x:Operand) (hop:o.op=Op.lookup T mo x false) (B:Nat) (hm:a.eval mo=.map (some B)) (c d:Int) (hx:a.eval x=ks c d) {m:SM} (h:MapIs w B m) (z:Value) (hz:(zeroValue e).run P w=.ok z w) (v:Value) (hv:(mget m c d).getD z=v)
    (hK:wpList P ops Q rest (a.put o.dst v) w) :
    wpList P ops Q (o :: rest) a w:=by
  subst hv
  exact wp_lookup_spot K hT hg mo x false hop B hm c d hx h z hz (by simpa using hK)
theorem wp_lookup_spot2 {w:World} {ops:Array Oper} {rest:List Oper} {o:Oper} {a:Act} {Q:Exit→Act→World→Prop}
    (hg:o.guard=none) (mo x:Operand) (hop:o.op=Op.lookup T mo x true) (B:Nat) (hm:a.eval mo=.map (some B)) (c d:Int) (hx:a.eval x=ks c d) {m:SM} (h:MapIs w B m) (z:Value) (hz:(zeroValue e).run P w=.ok z w) (v:Value) (hv:(mget m c d).getD z=v) (s:Bool) (hs:(mget m c d).isSome=s)
    (hK:wpList P ops Q rest (a.put o.dst (.tuple #[v,.bool s])) w) :
    wpList P ops Q (o :: rest) a w:=by
  subst hv
  subst hs
  exact wp_lookup_spot K hT hg mo x true hop B hm c d hx h z hz (by simpa using hK)
theorem wp_update_spot {w:World} {ops:Array Oper} {rest:List Oper} {o:Oper} {a:Act} {Q:Exit→Act→World→Prop}
    (hg:o.guard=none) (mo x vo:Operand) (hop:o.op=Op.mapUpdate T mo x vo) (B:Nat) (hm:a.eval mo=.map (some B)) (c d:Int) (hx:a.eval x=ks c d) (v:Value) (hv:a.eval vo=v) {m:SM} (h:MapIs w B m)
    (hK:∀ w',MapIs w' B (mput m c d v)→w.grownBy w' (some B)→w'.heap.size=w.heap.size→wpList P ops Q rest (a.put o.dst undef) w') :
    wpList P ops Q (o :: rest) a w:=by
  refine wpList_plain hg fun K' hK'=>?_
  obtain ⟨w',hrun,r1,r2,r3⟩:=run_update K hT h c d v
  unfold Oper.wp
  simp only [execOp,hop,hm,hx,hv]
  simp only [Sem.run_bind,hrun,Result.andThen]
  exact hK' _ _ (hK w' r1 r2 r3)
end
end Go.Proofs.YthnilelmhpmanaaDoor.Hm
end
