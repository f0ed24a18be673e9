/- A part of the proof: contracts and laws. -/
import Derived.IntWalk
import Derived.Test.YthnilelmhpmanaaDoorWxq5
section
namespace Go.Proofs.YthnilelmhpmanaaDoor.PHeardFits
open Go.RowKit Go.Proofs.YthnilelmhpmanaaDoorW.PrintWords Go.Proofs.YthnilelmhpmanaaDoorW.PrintLast Go.Proofs.YthnilelmhpmanaaDoorW.PrintMore
set_option linter.unusedVariables false
set_option linter.unusedSimpArgs false
theorem w64 {n:Int} (h : -9223372036854775808≤n) (h':n≤9223372036854775807):wrap64 n=n:=by unfold wrap64;omega
theorem ev_cast {α:Type} {g:Nat→Option α} {r s:α} (h:Ev g r) (e:r=s):Ev g s:=e ▸ h
theorem rd_nat (l:List Int) (i:Nat):rd l (i:Int)=l.getD i 0:=by simp [rd]
theorem rd_cons (l:List Int) (i:Nat) (h:i<l.length):l.drop i=rd l (i:Int) :: l.drop (i+1):=by
  rw [List.drop_eq_getElem_cons h,rd_nat,List.getD_eq_getElem?_getD,List.getElem?_eq_getElem h];rfl
theorem rd_L1_cons (l:List (List Int)) (i:Nat) (h:i<l.length):l.drop i=rd_L1 l (i:Int) :: l.drop (i+1):=by
  rw [List.drop_eq_getElem_cons h,rd_L1,Int.toNat_natCast,List.getD_eq_getElem?_getD,List.getElem?_eq_getElem h];rfl
theorem rd_T85_cons (l:List S85) (i:Nat) (h:i<l.length):l.drop i=rd_T85 l (i:Int) :: l.drop (i+1):=by
  rw [List.drop_eq_getElem_cons h,rd_T85,Int.toNat_natCast,List.getD_eq_getElem?_getD,List.getElem?_eq_getElem h];rfl
theorem rd_T62_cons (l:List S62) (i:Nat) (h:i<l.length):l.drop i=rd_T62 l (i:Int) :: l.drop (i+1):=by
  rw [List.drop_eq_getElem_cons h,rd_T62,Int.toNat_natCast,List.getD_eq_getElem?_getD,List.getElem?_eq_getElem h];rfl
def growsB (last below:Int):List Int→Bool
  | []=>true
  | x :: r=>decide (last+1≤x) && decide (x≤below - 1) && growsB x below r
theorem clies_eq (a b c:Int):cycle_lies.f a b c=some (decide (b≤a) && decide (a≤c)):=by
  unfold cycle_lies.f
  by_cases h:b≤a <;> simp [h]
theorem grows_l0 (l:List Int) (below:Int) (hl:l.length≤9223372036854775807) (hb0 : -4611686018427387904<below) (hb:below≤9223372036854775807) :
    ∀ (d i:Nat) (last:Int),i+d=l.length → -2<last→last<9223372036854775807→Ev (fun k=>cycle_grows.l0 k below last l (l.length:Int) i) (growsB last below (l.drop i))
  | 0,i,last,h,h0,h1=>by
    refine Ev.step (f:=fun _=>some true) (fun k=>?_) ?_
    · simp only [cycle_grows.l0];rw [if_neg (by omega)]
    · rw [List.drop_eq_nil_of_le (by omega)];exact Ev.now _
  | d+1,i,last,h,h0,h1=>by
    have hi:i<l.length:=by omega
    rw [rd_cons l i hi]
    have e1:wrap64 ((i:Int)+1)=((i+1:Nat):Int):=by rw [w64 (by omega) (by omega)];omega
    have e2:wrap64 (last+1)=last+1:=w64 (by omega) (by omega)
    have e3:wrap64 (below - 1)=below - 1:=w64 (by omega) (by omega)
    have hstep:∀ k,cycle_grows.l0 (k+1) below last l (l.length:Int) i=if (decide (last+1≤rd l i) && decide (rd l i≤below - 1))=true then cycle_grows.l0 k below (rd l i) l (l.length:Int) ((i+1:Nat):Int) else some false:=fun k=>by
      simp only [cycle_grows.l0]
      rw [if_pos (by omega),if_pos (by omega),if_pos (by omega),e1,e2,e3,clies_eq,Option.bind_some]
    unfold growsB
    cases hc:(decide (last+1≤rd l i) && decide (rd l i≤below - 1)) with
    | true =>
      have hc':=hc
      simp only [Bool.and_eq_true,decide_eq_true_eq] at hc'
      refine Ev.step (f:=fun k=>cycle_grows.l0 k below (rd l i) l (l.length:Int) ((i+1:Nat):Int)) (fun k=>by rw [hstep,hc,if_pos rfl]) ?_
      simpa using grows_l0 l below hl hb0 hb d (i+1) (rd l i) (by omega) (by omega) (by omega)
    | false =>
      refine Ev.step (f:=fun _=>some false) (fun k=>by rw [hstep,hc];simp) ?_
      simpa using Ev.now false
theorem grows_ev (l:List Int) (below:Int) (hl:l.length≤9223372036854775807) (hb0 : -4611686018427387904<below) (hb:below≤9223372036854775807):Ev (fun k=>cycle_grows.f k l below) (growsB (-1) below l):=by
  have:=grows_l0 l below hl hb0 hb l.length 0 (-1) (by omega) (by omega) (by omega)
  simpa [cycle_grows.f] using this
theorem equal_l0 (a b:List Int) (hl:a.length=b.length) (hs:a.length≤9223372036854775807):∀ (d i:Nat),i+d=a.length→Ev (fun k=>slices_Equal_int_int.l0 k a b (a.length:Int) i) (a.drop i == b.drop i)
  | 0,i,h=>by
    refine Ev.step (f:=fun _=>some true) (fun k=>?_) ?_
    · simp only [slices_Equal_int_int.l0];rw [if_neg (by omega)]
    · rw [List.drop_eq_nil_of_le (by omega),List.drop_eq_nil_of_le (by omega)];exact Ev.now _
  | d+1,i,h=>by
    have hi:i<a.length:=by omega
    have hj:i<b.length:=by omega
    rw [rd_cons a i hi,rd_cons b i hj]
    have e1:wrap64 ((i:Int)+1)=((i+1:Nat):Int):=by rw [w64 (by omega) (by omega)];omega
    by_cases hc:rd a i=rd b i
    · refine Ev.step (f:=fun k=>slices_Equal_int_int.l0 k a b (a.length:Int) ((i+1:Nat):Int)) (fun k=>?_) ?_
      · simp only [slices_Equal_int_int.l0];rw [if_pos (by omega),if_pos (by omega),if_pos (by omega),if_pos (by omega),if_pos hc,e1]
      · have:=equal_l0 a b hl hs d (i+1) (by omega)
        simpa [hc] using this
    · refine Ev.step (f:=fun _=>some false) (fun k=>?_) ?_
      · simp only [slices_Equal_int_int.l0];rw [if_pos (by omega),if_pos (by omega),if_pos (by omega),if_pos (by omega),if_neg hc]
      · exact ev_cast (Ev.now false) (by simp [hc])
theorem equal_ev (a b:List Int) (hs:a.length≤9223372036854775807):Ev (fun k=>slices_Equal_int_int.f k a b) (a == b):=by
  by_cases h:a.length=b.length
  · refine Ev.congr (f:=fun k=>slices_Equal_int_int.l0 k a b (a.length:Int) ((0:Nat):Int)) (fun k=>?_) ?_
    · unfold slices_Equal_int_int.f;rw [if_pos (by omega)];rfl
    · simpa using equal_l0 a b h hs a.length 0 (by omega)
  · refine Ev.congr (f:=fun _=>some false) (fun k=>?_) ?_
    · unfold slices_Equal_int_int.f;rw [if_neg (by omega)]
    · exact ev_cast (Ev.now false) (by symm;rw [beq_eq_false_iff_ne];intro e;exact h (by rw [e]))
def rowB (beats:Int) (i:Nat) (l:List Int):Bool:=growsB (-1) beats l && (decide (0<i) || l == [beats - 1])
def rowsB (beats:Int):Nat→List (List Int)→Bool
  | _,[]=>true
  | i,l :: r=>rowB beats i l && rowsB beats (i+1) r
def formB (g:Int) (f:S85):Bool:=decide (2≤f.f0) && decide (f.f0≤32) && ((f.f1.length:Int) == g) && rowsB f.f0 0 f.f1
def bookB (g:Int) (fs:List S85):Bool:=decide (1≤g) && decide (g≤5) && (decide (1≤fs.length) && decide (fs.length≤4)) && fs.all (formB g)
/-- Sizes that memory can have. -/
def FitForms (fs:List S85):Prop:=fs.length≤9223372036854775807∧∀ f ∈ fs,f.f1.length≤9223372036854775807∧∀ l ∈ f.f1,l.length≤9223372036854775807
theorem check_l1 (x18:List S85) (x19 x20 g:Int) (fs:List S85) (beats:Int) (x11:List (List Int)) (x39:List (List Int)) (hb : -4611686018427387904<beats∨True) (hl:x39.length≤9223372036854775807) (hls:∀ l ∈ x39,l.length≤9223372036854775807) :
    ∀ (d i:Nat) (ok:Bool) (r:Int),i+d=x39.length→(ok=true→2≤beats∧beats≤32) →
      Ev (fun k=>cycle_Check.l0 k (ok && rowsB beats i (x39.drop i)) x18 x19 (wrap64 (x20+1)) g fs) r →
      Ev (fun k=>cycle_Check.l1 k ok x18 x19 x20 x39 (x39.length:Int) i g fs beats x11) r
  | 0,i,ok,r,h,hok,hr=>by
    refine Ev.step (fun k=>?_) hr
    simp only [cycle_Check.l1];rw [if_neg (by omega),List.drop_eq_nil_of_le (by omega)];simp [rowsB]
  | d+1,i,ok,r,h,hok,hr=>by
    have hi:i<x39.length:=by omega
    have e1:wrap64 ((i:Int)+1)=((i+1:Nat):Int):=by rw [w64 (by omega) (by omega)];omega
    rw [rd_L1_cons x39 i hi] at hr
    have hmem:rd_L1 x39 (i:Int) ∈ x39:=by
      have:rd_L1 x39 (i:Int) ∈ x39.drop i:=by rw [rd_L1_cons x39 i hi];exact List.mem_cons_self
      exact List.mem_of_mem_drop this
    have hml:=hls _ hmem
    simp only [rowsB] at hr
    cases ok with
    | false =>
      refine Ev.step (f:=fun k=>cycle_Check.l1 k false x18 x19 x20 x39 (x39.length:Int) ((i+1:Nat):Int) g fs beats x11) (fun k=>?_) ?_
      · simp only [cycle_Check.l1];rw [if_pos (by omega),if_pos (by omega),if_pos (by omega),if_neg (by simp),e1]
      · exact check_l1 x18 x19 x20 g fs beats x11 x39 hb hl hls d (i+1) false r (by omega) (by simp) (by simpa using hr)
    | true =>
      obtain ⟨hb2,hb32⟩:=hok rfl
      have e2:wrap64 (beats - 1)=beats - 1:=w64 (by omega) (by omega)
      have hg:=grows_ev (rd_L1 x39 (i:Int)) beats hml (by omega) (by omega)
      refine Ev.step (f:=fun k=>(cycle_grows.f k (rd_L1 x39 (i:Int)) beats).bind fun t112=>if t112=true then (if (i:Int)>0 then cycle_Check.l1 k true x18 x19 x20 x39 (x39.length:Int) ((i+1:Nat):Int) g fs beats x11 else (slices_Equal_int_int.f k (rd_L1 x39 (i:Int)) [beats - 1]).bind fun t116=>cycle_Check.l1 k t116 x18 x19 x20 x39 (x39.length:Int) ((i+1:Nat):Int) g fs beats x11) else cycle_Check.l1 k false x18 x19 x20 x39 (x39.length:Int) ((i+1:Nat):Int) g fs beats x11) (fun k=>?_) ?_
      · simp only [cycle_Check.l1];rw [if_pos (by omega),if_pos (by omega),if_pos (by omega),if_pos (by trivial),e1,e2]
      · refine Ev.bind hg ?_
        cases hgb:growsB (-1) beats (rd_L1 x39 (i:Int)) with
        | false =>
          simp only [Bool.false_eq_true,if_false]
          exact check_l1 x18 x19 x20 g fs beats x11 x39 hb hl hls d (i+1) false r (by omega) (by simp) (by simpa [rowB,hgb] using hr)
        | true =>
          simp only [if_true]
          by_cases h0:0<i
          · refine Ev.congr (f:=fun k=>cycle_Check.l1 k true x18 x19 x20 x39 (x39.length:Int) ((i+1:Nat):Int) g fs beats x11) (fun k=>by rw [if_pos (by omega)]) ?_
            exact check_l1 x18 x19 x20 g fs beats x11 x39 hb hl hls d (i+1) true r (by omega) (fun _=>⟨hb2,hb32⟩) (by simpa [rowB,hgb,h0] using hr)
          · refine Ev.congr (f:=fun k=>(slices_Equal_int_int.f k (rd_L1 x39 (i:Int)) [beats - 1]).bind fun t116=>cycle_Check.l1 k t116 x18 x19 x20 x39 (x39.length:Int) ((i+1:Nat):Int) g fs beats x11) (fun k=>by rw [if_neg (by omega)]) ?_
            refine Ev.bind (equal_ev _ _ hml) ?_
            exact check_l1 x18 x19 x20 g fs beats x11 x39 hb hl hls d (i+1) _ r (by omega) (fun _=>⟨hb2,hb32⟩) (by simpa [rowB,hgb,h0] using hr)
theorem check_l0 (g:Int) (fs:List S85) (hf:FitForms fs):∀ (d i:Nat) (ok:Bool),i+d=fs.length→Ev (fun k=>cycle_Check.l0 k ok fs (fs.length:Int) i g fs) (if (ok && (fs.drop i).all (formB g))=true then 0 else 50)
  | 0,i,ok,h=>by
    refine Ev.step (f:=fun _=>some (if ok=true then 0 else 50)) (fun k=>?_) ?_
    · simp only [cycle_Check.l0];rw [if_neg (by omega)];cases ok <;> rfl
    · refine ev_cast (Ev.now _) ?_
      rw [List.drop_eq_nil_of_le (by omega)];simp
  | d+1,i,ok,h=>by
    have hi:i<fs.length:=by omega
    have e1:wrap64 ((i:Int)+1)=((i+1:Nat):Int):=by rw [w64 (by have:=hf.1;omega) (by have:=hf.1;omega)];omega
    have hmem:rd_T85 fs (i:Int) ∈ fs:=by
      have:rd_T85 fs (i:Int) ∈ fs.drop i:=by rw [rd_T85_cons fs i hi];exact List.mem_cons_self
      exact List.mem_of_mem_drop this
    obtain ⟨hf1,hf2⟩:=hf.2 _ hmem
    rw [rd_T85_cons fs i hi]
    have hnext:=fun b=>check_l0 g fs hf d (i+1) b (by omega)
    have key:∀ (b:Bool),(b=true→2≤(rd_T85 fs i).f0∧(rd_T85 fs i).f0≤32)→b=(ok && (decide (2≤(rd_T85 fs i).f0) && decide ((rd_T85 fs i).f0≤32) && (((rd_T85 fs i).f1.length:Int) == g))) →
        Ev (fun k=>cycle_Check.j2 k b fs (fs.length:Int) i g fs (rd_T85 fs i).f0 (rd_T85 fs i).f1) (if (ok && (rd_T85 fs i :: fs.drop (i+1)).all (formB g))=true then 0 else 50):=by
      intro b hb hbe
      refine Ev.step (f:=fun k=>cycle_Check.l1 k b fs (fs.length:Int) i (rd_T85 fs i).f1 ((rd_T85 fs i).f1.length:Int) ((0:Nat):Int) g fs (rd_T85 fs i).f0 (rd_T85 fs i).f1) (fun k=>rfl) ?_
      refine check_l1 fs (fs.length:Int) i g fs (rd_T85 fs i).f0 _ (rd_T85 fs i).f1 (.inr trivial) hf1 hf2 (rd_T85 fs i).f1.length 0 b _ (by omega) hb ?_
      rw [e1]
      refine ev_cast (hnext _) ?_
      congr 2
      rw [hbe,List.all_cons,formB,List.drop_zero]
      simp only [Bool.and_assoc]
    cases ok with
    | false =>
      refine Ev.step (f:=fun k=>cycle_Check.j2 k false fs (fs.length:Int) i g fs (rd_T85 fs i).f0 (rd_T85 fs i).f1) (fun k=>?_) (key false (by simp) (by simp))
      simp only [cycle_Check.l0];rw [if_pos (by omega),if_pos (by omega),if_pos (by omega),if_neg (by simp)]
    | true =>
      cases hc:(decide (2≤(rd_T85 fs i).f0) && decide ((rd_T85 fs i).f0≤32)) with
      | false =>
        refine Ev.step (f:=fun k=>cycle_Check.j2 k false fs (fs.length:Int) i g fs (rd_T85 fs i).f0 (rd_T85 fs i).f1) (fun k=>?_) (key false (by simp) (by rw [hc];simp))
        simp only [cycle_Check.l0];rw [if_pos (by omega),if_pos (by omega),if_pos (by omega),if_pos (by trivial),clies_eq,hc];simp
      | true =>
        have hc':=hc
        simp only [Bool.and_eq_true,decide_eq_true_eq] at hc'
        refine Ev.step (f:=fun k=>cycle_Check.j2 k (((rd_T85 fs i).f1.length:Int) == g) fs (fs.length:Int) i g fs (rd_T85 fs i).f0 (rd_T85 fs i).f1) (fun k=>?_) (key _ (fun _=>hc') (by rw [hc];simp))
        simp only [cycle_Check.l0];rw [if_pos (by omega),if_pos (by omega),if_pos (by omega),if_pos (by trivial),clies_eq,hc];simp
theorem check_ev (g:Int) (fs:List S85) (hf:FitForms fs):Ev (fun k=>cycle_Check.f k g fs) (if bookB g fs=true then 0 else 50):=by
  have key:∀ b,Ev (fun k=>cycle_Check.j0 k b g fs) (if (b && fs.all (formB g))=true then 0 else 50):=fun b=>by
    refine Ev.step (f:=fun k=>cycle_Check.l0 k b fs (fs.length:Int) ((0:Nat):Int) g fs) (fun k=>rfl) ?_
    simpa using check_l0 g fs hf fs.length 0 b (by omega)
  cases h1:(decide (1≤g) && decide (g≤5)) with
  | false =>
    refine Ev.congr (f:=fun k=>cycle_Check.j0 k false g fs) (fun k=>?_) (ev_cast (key false) (by unfold bookB;rw [h1];simp))
    unfold cycle_Check.f;rw [clies_eq,h1];simp
  | true =>
    refine Ev.congr (f:=fun k=>cycle_Check.j0 k (decide (1≤(fs.length:Int)) && decide ((fs.length:Int)≤4)) g fs) (fun k=>?_) (ev_cast (key _) ?_)
    · unfold cycle_Check.f;rw [clies_eq,h1];simp [clies_eq]
    · unfold bookB;rw [h1]
      rw [show decide (1≤(fs.length:Int))=decide (1≤fs.length) from by simp;omega,show decide ((fs.length:Int)≤4)=decide (fs.length≤4) from by simp;omega];simp
end Go.Proofs.YthnilelmhpmanaaDoor.PHeardFits
end
section
namespace Go.Proofs.YthnilelmhpmanaaDoor.PHeardFits
open Go.RowKit Go.Proofs.YthnilelmhpmanaaDoorW.PrintWords Go.Proofs.YthnilelmhpmanaaDoorW.PrintLast Go.Proofs.YthnilelmhpmanaaDoorW.PrintMore
set_option linter.unusedVariables false
set_option linter.unusedSimpArgs false
/-- Are numbers tones, so many of them at least? -/
def areT (l:List Int) (least:Int):Bool:=liesB l.length least 24 && !(l.any badTone)
theorem areT_eq (l:List Int) (least:Int):heard_areTones.f l least=some (areT l least):=rfl
def pieceOk (n:Nat) (p:S62):Bool:=liesB p.f0 0 ((n:Int) - 1) && areT p.f1 1
def bookOk (g:Int) (fs:List S85) (ps:List S62):Bool:=bookB g fs && liesB ps.length 1 6 && ps.all (pieceOk fs.length)
theorem rd_T62_mem (ps:List S62) (i:Nat) (h:i<ps.length):rd_T62 ps (i:Int) ∈ ps:=by
  have:rd_T62 ps (i:Int) ∈ ps.drop i:=by rw [rd_T62_cons ps i h];exact List.mem_cons_self
  exact List.mem_of_mem_drop this
theorem hcheck_l0 (g:Int) (fs:List S85) (ps:List S62) (hl:ps.length≤9223372036854775807) (hf:fs.length≤9223372036854775807) :
    ∀ (d i:Nat) (ok:Bool),i+d=ps.length→Ev (fun k=>heard_Check.l0 k ok ps (ps.length:Int) i g fs ps) (if (ok && (ps.drop i).all (pieceOk fs.length))=true then 0 else 90)
  | 0,i,ok,h=>by
    refine Ev.step (f:=fun _=>some (if ok=true then 0 else 90)) (fun k=>?_) ?_
    · simp only [heard_Check.l0];rw [if_neg (by omega)];cases ok <;> rfl
    · rw [List.drop_eq_nil_of_le (by omega)];simpa using Ev.now _
  | d+1,i,ok,h=>by
    have hi:i<ps.length:=by omega
    have e1:wrap64 ((i:Int)+1)=((i+1:Nat):Int):=by rw [w64 (by omega) (by omega)];omega
    have e2:wrap64 ((fs.length:Int) - 1)=(fs.length:Int) - 1:=w64 (by omega) (by omega)
    refine Ev.step (f:=fun k=>heard_Check.l0 k (ok && pieceOk fs.length (rd_T62 ps i)) ps (ps.length:Int) ((i+1:Nat):Int) g fs ps) (fun k=>?_) ?_
    · simp only [heard_Check.l0]
      rw [if_pos (by omega),if_pos (by omega),if_pos (by omega),e1,e2,lies_eq,areT_eq]
      cases ok with
      | false=>simp
      | true =>
        simp only [if_true,Option.bind_some,Bool.true_and,pieceOk]
        cases liesB (rd_T62 ps i).f0 0 ((fs.length:Int) - 1) <;> simp
    · refine ev_cast (hcheck_l0 g fs ps hl hf d (i+1) _ (by omega)) ?_
      rw [rd_T62_cons ps i hi,List.all_cons,Bool.and_assoc]
theorem hcheck_ev (g:Int) (fs:List S85) (ps:List S62) (hff:FitForms fs) (hl:ps.length≤9223372036854775807):Ev (fun k=>heard_Check.f k g fs ps) (if bookOk g fs ps=true then 0 else 90):=by
  have key:∀ b,Ev (fun k=>heard_Check.j0 k b g fs ps) (if (b && ps.all (pieceOk fs.length))=true then 0 else 90):=fun b=>by
    refine Ev.step (f:=fun k=>heard_Check.l0 k b ps (ps.length:Int) ((0:Nat):Int) g fs ps) (fun k=>rfl) ?_
    simpa using hcheck_l0 g fs ps hl hff.1 ps.length 0 b (by omega)
  refine Ev.bind (f:=fun k e=>if e=0 then ((heard_lies.f (ps.length:Int) 1 6).bind fun t=>heard_Check.j0 k t g fs ps) else heard_Check.j0 k false g fs ps) (check_ev g fs hff) ?_
  unfold bookOk
  cases hb:bookB g fs with
  | true =>
    refine Ev.congr (f:=fun k=>heard_Check.j0 k (liesB ps.length 1 6) g fs ps) (fun k=>?_) (ev_cast (key _) (by simp))
    simp [lies_eq]
  | false =>
    refine Ev.congr (f:=fun k=>heard_Check.j0 k false g fs ps) (fun k=>?_) (ev_cast (key _) (by simp))
    simp
theorem sits_eq (a b c:Int):saronref00_Sits.f a b c=some (liesB a b c):=by
  unfold saronref00_Sits.f liesB
  by_cases h:b≤a <;> simp [h]
theorem rgrows_l0 (l:List Int) (below:Int) (hl:l.length≤9223372036854775807):∀ (d i:Nat) (last:Int),i+d=l.length→Ev (fun k=>saronref00_Grows.l0 k l below last i) (growsB last below (l.drop i))
  | 0,i,last,h=>by
    refine Ev.step (f:=fun _=>some true) (fun k=>?_) ?_
    · simp only [saronref00_Grows.l0];rw [if_neg (by omega)]
    · rw [List.drop_eq_nil_of_le (by omega)];exact Ev.now _
  | d+1,i,last,h=>by
    have hi:i<l.length:=by omega
    have e1:wrap64 ((i:Int)+1)=((i+1:Nat):Int):=by rw [w64 (by omega) (by omega)];omega
    rw [rd_cons l i hi]
    unfold growsB
    by_cases h1:rd l i≤last
    · refine Ev.step (f:=fun _=>some false) (fun k=>?_) ?_
      · simp only [saronref00_Grows.l0];rw [if_pos (by omega),if_pos (by omega),if_pos h1]
      · rw [show decide (last+1≤rd l i)=false from by simp;omega];exact Ev.now _
    · by_cases h2:rd l i ≥ below
      · refine Ev.step (f:=fun _=>some false) (fun k=>?_) ?_
        · simp only [saronref00_Grows.l0];rw [if_pos (by omega),if_pos (by omega),if_neg h1,if_pos h2]
        · rw [show decide (rd l i≤below - 1)=false from by simp;omega];simpa using Ev.now false
      · refine Ev.step (f:=fun k=>saronref00_Grows.l0 k l below (rd l i) ((i+1:Nat):Int)) (fun k=>?_) ?_
        · simp only [saronref00_Grows.l0];rw [if_pos (by omega),if_pos (by omega),if_neg h1,if_neg h2,e1]
        · rw [show decide (last+1≤rd l i)=true from by simp;omega,show decide (rd l i≤below - 1)=true from by simp;omega]
          simpa using rgrows_l0 l below hl d (i+1) (rd l i) (by omega)
theorem rgrows_ev (l:List Int) (below:Int) (hl:l.length≤9223372036854775807):Ev (fun k=>saronref00_Grows.f k l below) (growsB (-1) below l):=by
  have:=rgrows_l0 l below hl l.length 0 (-1) (by omega)
  simpa [saronref00_Grows.f] using this
end Go.Proofs.YthnilelmhpmanaaDoor.PHeardFits
end
