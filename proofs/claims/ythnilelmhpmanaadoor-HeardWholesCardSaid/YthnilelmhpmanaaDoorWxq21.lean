/- A part of the proof: contracts and laws. -/
import Derived.Test.YthnilelmhpmanaaDoorWxq13
import Derived.Test.YthnilelmhpmanaaDoorWxq19
section
namespace Go.Proofs.YthnilelmhpmanaaDoor.PHeardFits
open Go.RowKit Go.Proofs.YthnilelmhpmanaaDoorW.PrintWords Go.Proofs.YthnilelmhpmanaaDoorW.PrintLast Go.Proofs.YthnilelmhpmanaaDoorW.PrintMore
set_option linter.unusedVariables false
set_option linter.unusedSimpArgs false
theorem requal_l0 (a b:List Int) (hl:a.length=b.length) (hs:a.length≤9223372036854775807):∀ (d i:Nat) (ok:Bool),i+d=a.length→Ev (fun k=>saronref00_Equal.l0 k a b ok i) (ok && a.drop i == b.drop i)
  | 0,i,ok,h=>by
    refine Ev.step (f:=fun _=>some ok) (fun k=>?_) ?_
    · simp only [saronref00_Equal.l0]
      cases ok
      · rw [if_neg (by simp)]
      · rw [if_pos rfl,if_neg (by omega)]
    · rw [List.drop_eq_nil_of_le (by omega),List.drop_eq_nil_of_le (by omega)];exact ev_cast (Ev.now _) (by cases ok <;> rfl)
  | d+1,i,ok,h=>by
    have hi:i<a.length:=by omega
    have hj:i<b.length:=by omega
    have e1:wrap64 ((i:Int)+1)=((i+1:Nat):Int):=by rw [w64 (by omega) (by omega)];omega
    cases ok with
    | false =>
      refine Ev.step (f:=fun _=>some false) (fun k=>?_) (Ev.now false)
      simp only [saronref00_Equal.l0];rw [if_neg (by simp)]
    | true =>
      rw [rd_cons a i hi,rd_cons b i hj]
      refine Ev.step (f:=fun k=>saronref00_Equal.l0 k a b ((rd a i) == (rd b i)) ((i+1:Nat):Int)) (fun k=>?_) ?_
      · simp only [saronref00_Equal.l0];rw [if_pos trivial,if_pos (by omega),if_pos (by omega),if_pos (by omega),e1]
      · refine ev_cast (requal_l0 a b hl hs d (i+1) _ (by omega)) ?_
        rw [List.cons_beq_cons,Bool.true_and]
theorem requal_ev (a b:List Int) (hs:a.length≤9223372036854775807):Ev (fun k=>saronref00_Equal.f k a b) (a == b):=by
  by_cases h:a.length=b.length
  · refine Ev.congr (f:=fun k=>saronref00_Equal.l0 k a b true ((0:Nat):Int)) (fun k=>?_) ?_
    · unfold saronref00_Equal.f;rw [show ((a.length:Int) == (b.length:Int))=true from by simp;omega];rfl
    · simpa using requal_l0 a b h hs a.length 0 true (by omega)
  · refine Ev.step (f:=fun _=>some false) (fun k=>?_) ?_
    · unfold saronref00_Equal.f;rw [show ((a.length:Int) == (b.length:Int))=false from by simp;omega]
      simp only [saronref00_Equal.l0];rw [if_neg (by simp)]
    · exact ev_cast (Ev.now false) (by symm;rw [beq_eq_false_iff_ne];intro e;exact h (by rw [e]))
theorem requal_self (a:List Int) (hs:a.length≤9223372036854775807):Ev (fun k=>saronref00_Equal.f k a a) true:=ev_cast (requal_ev a a hs) (by simp)
theorem rcheck_l1 (x4 g:Int) (fs:List S85) (beats:Int) (ls:List (List Int)) (hg:(ls.length:Int)=g) (hb:2≤beats∧beats≤32) (hl:ls.length≤9223372036854775807) (hls:∀ l ∈ ls,l.length≤9223372036854775807) :
    ∀ (d i:Nat) (ok:Bool) (r:Int),i+d=ls.length →
      Ev (fun k=>saronref05_Check.l0 k (ok && rowsB beats i (ls.drop i)) (wrap64 (x4+1)) g fs) r →
      Ev (fun k=>saronref05_Check.l1 k ok x4 i g fs beats ls) r
  | 0,i,ok,r,h,hr=>by
    rw [List.drop_eq_nil_of_le (by omega)] at hr
    refine Ev.step (f:=fun k=>saronref05_Check.j5 k ok x4 i false g fs beats ls) (fun k=>?_) ?_
    · simp only [saronref05_Check.l1]
      cases ok
      · rw [if_neg (by simp)]
      · rw [if_pos rfl,show decide ((i:Int)<g)=false from by simp;omega]
    · refine Ev.step (f:=fun k=>saronref05_Check.l0 k ok (wrap64 (x4+1)) g fs) (fun k=>?_) ?_
      · simp only [saronref05_Check.j5];rw [if_neg (by simp)]
      · simpa [rowsB] using hr
  | d+1,i,ok,r,h,hr=>by
    have hi:i<ls.length:=by omega
    cases ok with
    | false =>
      refine Ev.step (f:=fun k=>saronref05_Check.j5 k false x4 i false g fs beats ls) (fun k=>?_) ?_
      · simp only [saronref05_Check.l1];rw [if_neg (by simp)]
      · refine Ev.step (f:=fun k=>saronref05_Check.l0 k false (wrap64 (x4+1)) g fs) (fun k=>?_) ?_
        · simp only [saronref05_Check.j5];rw [if_neg (by simp)]
        · simpa using hr
    | true =>
      have e1:wrap64 ((i:Int)+1)=((i+1:Nat):Int):=by rw [w64 (by omega) (by omega)];omega
      have e2:wrap64 (beats - 1)=beats - 1:=w64 (by omega) (by omega)
      rw [rd_L1_cons ls i hi] at hr
      have hmem:rd_L1 ls (i:Int) ∈ ls:=by
        have:rd_L1 ls (i:Int) ∈ ls.drop i:=by rw [rd_L1_cons ls i hi];exact List.mem_cons_self
        exact List.mem_of_mem_drop this
      have hml:=hls _ hmem
      simp only [rowsB] at hr
      have hgr:=rgrows_ev (rd_L1 ls (i:Int)) beats hml
      refine Ev.step (f:=fun k=>saronref05_Check.j5 k true x4 i true g fs beats ls) (fun k=>?_) ?_
      · simp only [saronref05_Check.l1];rw [if_pos trivial,show decide ((i:Int)<g)=true from by simp;omega]
      refine Ev.step (f:=fun k=>(saronref00_Grows.f k (rd_L1 ls (i:Int)) beats).bind fun t144=>if t144=true then (if (i:Int)>0 then saronref05_Check.l1 k true x4 ((i+1:Nat):Int) g fs beats ls else (saronref00_Equal.f k (rd_L1 ls 0) [beats - 1]).bind fun t149=>saronref05_Check.l1 k t149 x4 ((i+1:Nat):Int) g fs beats ls) else saronref05_Check.l1 k false x4 ((i+1:Nat):Int) g fs beats ls) (fun k=>?_) ?_
      · simp only [saronref05_Check.j5];rw [if_pos trivial,if_pos (by omega),if_pos (by omega),e1,e2,if_pos (show (0:Int)<(ls.length:Int) by omega)]
      · refine Ev.bind hgr ?_
        cases hgb:growsB (-1) beats (rd_L1 ls (i:Int)) with
        | false =>
          simp only [Bool.false_eq_true,if_false]
          exact rcheck_l1 x4 g fs beats ls hg hb hl hls d (i+1) false r (by omega) (by simpa [rowB,hgb] using hr)
        | true =>
          simp only [if_true]
          by_cases h0:0<i
          · refine Ev.congr (f:=fun k=>saronref05_Check.l1 k true x4 ((i+1:Nat):Int) g fs beats ls) (fun k=>by rw [if_pos (by omega)]) ?_
            exact rcheck_l1 x4 g fs beats ls hg hb hl hls d (i+1) true r (by omega) (by simpa [rowB,hgb,h0] using hr)
          · have hi0:i=0:=by omega
            subst hi0
            refine Ev.congr (f:=fun k=>(saronref00_Equal.f k (rd_L1 ls 0) [beats - 1]).bind fun t149=>saronref05_Check.l1 k t149 x4 ((0+1:Nat):Int) g fs beats ls) (fun k=>by rw [if_neg (by omega)]) ?_
            refine Ev.bind (requal_ev _ _ hml) ?_
            exact rcheck_l1 x4 g fs beats ls hg hb hl hls d (0+1) _ r (by omega) (by simpa [rowB,show growsB (-1) beats (rd_L1 ls 0)=true from hgb] using hr)
theorem rcheck_no (g:Int) (fs:List S85) (i:Int):Ev (fun k=>saronref05_Check.l0 k false i g fs) 50:=by
  refine Ev.step (f:=fun k=>saronref05_Check.j2 k false i false g fs) (fun k=>?_) ?_
  · simp only [saronref05_Check.l0];rw [if_neg (by simp)]
  · refine Ev.step (f:=fun _=>some 50) (fun k=>?_) (Ev.now _)
    simp only [saronref05_Check.j2];rw [if_neg (by simp),if_neg (by simp)]
theorem rcheck_l0 (g:Int) (fs:List S85) (hf:FitForms fs):∀ (d i:Nat) (ok:Bool),i+d=fs.length→Ev (fun k=>saronref05_Check.l0 k ok i g fs) (if (ok && (fs.drop i).all (formB g))=true then 0 else 50)
  | d,i,false,h=>ev_cast (rcheck_no g fs i) (by simp)
  | 0,i,true,h=>by
    refine Ev.step (f:=fun k=>saronref05_Check.j2 k true i false g fs) (fun k=>?_) ?_
    · simp only [saronref05_Check.l0];rw [if_pos trivial,show decide ((i:Int)<(fs.length:Int))=false from by simp;omega]
    · refine Ev.step (f:=fun _=>some 0) (fun k=>?_) ?_
      · simp only [saronref05_Check.j2];rw [if_neg (by simp),if_pos trivial]
      · rw [List.drop_eq_nil_of_le (by omega)];exact ev_cast (Ev.now _) (by simp)
  | d+1,i,true,h=>by
    have hi:i<fs.length:=by omega
    have e1:wrap64 ((i:Int)+1)=((i+1:Nat):Int):=by rw [w64 (by have:=hf.1;omega) (by have:=hf.1;omega)];omega
    have hmem:rd_T85 fs (i:Int) ∈ fs:=by
      have:rd_T85 fs (i:Int) ∈ fs.drop i:=by rw [rd_T85_cons fs i hi];exact List.mem_cons_self
      exact List.mem_of_mem_drop this
    obtain ⟨hf1,hf2⟩:=hf.2 _ hmem
    rw [rd_T85_cons fs i hi]
    have hnext:=fun b=>rcheck_l0 g fs hf d (i+1) b (by omega)
    have key0:formB g (rd_T85 fs i)=false→((decide (2≤(rd_T85 fs i).f0) && decide ((rd_T85 fs i).f0≤32)) && (((rd_T85 fs i).f1.length:Int) == g))=false→Ev (fun k=>saronref05_Check.j3 k false i g fs (rd_T85 fs i).f0 (rd_T85 fs i).f1) (if (true && (rd_T85 fs i :: fs.drop (i+1)).all (formB g))=true then 0 else 50):=fun hfb _=>by
      refine Ev.step (f:=fun k=>saronref05_Check.l1 k false i 0 g fs (rd_T85 fs i).f0 (rd_T85 fs i).f1) (fun k=>rfl) ?_
      refine Ev.step (f:=fun k=>saronref05_Check.j5 k false i 0 false g fs (rd_T85 fs i).f0 (rd_T85 fs i).f1) (fun k=>?_) ?_
      · simp only [saronref05_Check.l1];rw [if_neg (by simp)]
      refine Ev.step (f:=fun k=>saronref05_Check.l0 k false (wrap64 (i+1)) g fs) (fun k=>?_) ?_
      · simp only [saronref05_Check.j5];rw [if_neg (by simp)]
      · exact ev_cast (rcheck_no g fs _) (by simp [hfb])
    refine Ev.step (f:=fun k=>saronref05_Check.j2 k true i true g fs) (fun k=>?_) ?_
    · simp only [saronref05_Check.l0];rw [if_pos trivial,show decide ((i:Int)<(fs.length:Int))=true from by simp;omega]
    cases hc:(decide (2≤(rd_T85 fs i).f0) && decide ((rd_T85 fs i).f0≤32)) with
    | false =>
      refine Ev.step (f:=fun k=>saronref05_Check.j3 k false i g fs (rd_T85 fs i).f0 (rd_T85 fs i).f1) (fun k=>?_) (key0 (by simp only [formB,hc];rfl) (by rw [hc];rfl))
      simp only [saronref05_Check.j2];rw [if_pos trivial,if_pos (by omega),if_pos (by omega),sits_eq,Option.bind_some,show liesB (rd_T85 fs i).f0 2 32=false from hc,if_neg (by simp)]
    | true =>
      have hc':=hc
      simp only [Bool.and_eq_true,decide_eq_true_eq] at hc'
      refine Ev.step (f:=fun k=>saronref05_Check.j3 k (((rd_T85 fs i).f1.length:Int) == g) i g fs (rd_T85 fs i).f0 (rd_T85 fs i).f1) (fun k=>?_) ?_
      · simp only [saronref05_Check.j2];rw [if_pos trivial,if_pos (by omega),if_pos (by omega),sits_eq,Option.bind_some,show liesB (rd_T85 fs i).f0 2 32=true from hc,if_pos rfl]
      cases hg:(((rd_T85 fs i).f1.length:Int) == g) with
      | false=>exact key0 (by simp only [formB,hc,hg];rfl) (by rw [hc,hg];rfl)
      | true =>
        refine Ev.step (f:=fun k=>saronref05_Check.l1 k true i ((0:Nat):Int) g fs (rd_T85 fs i).f0 (rd_T85 fs i).f1) (fun k=>rfl) ?_
        refine rcheck_l1 i g fs (rd_T85 fs i).f0 _ (by simpa using hg) hc' hf1 hf2 (rd_T85 fs i).f1.length 0 true _ (by omega) ?_
        rw [e1]
        refine ev_cast (hnext _) ?_
        rw [List.all_cons,formB,hc,hg,List.drop_zero];simp
theorem rcheck_ev (g:Int) (fs:List S85) (hf:FitForms fs):Ev (fun k=>saronref05_Check.f k g fs) (if bookB g fs=true then 0 else 50):=by
  have key:∀ b,Ev (fun k=>saronref05_Check.j0 k b g fs) (if (b && fs.all (formB g))=true then 0 else 50):=fun b=>by
    refine Ev.step (f:=fun k=>saronref05_Check.l0 k b ((0:Nat):Int) g fs) (fun k=>rfl) ?_
    simpa using rcheck_l0 g fs hf fs.length 0 b (by omega)
  cases h1:liesB g 1 5 with
  | false =>
    refine Ev.congr (f:=fun k=>saronref05_Check.j0 k false g fs) (fun k=>?_) (ev_cast (key false) ?_)
    · unfold saronref05_Check.f;rw [sits_eq,h1];simp
    · unfold bookB;rw [show (decide (1≤g) && decide (g≤5))=false from h1];simp
  | true =>
    by_cases h2:(fs.length:Int) ≥ 1
    · refine Ev.congr (f:=fun k=>saronref05_Check.j0 k (decide ((fs.length:Int)≤4)) g fs) (fun k=>?_) (ev_cast (key _) ?_)
      · unfold saronref05_Check.f;rw [sits_eq,h1,Option.bind_some,if_pos rfl,if_pos h2]
      · unfold bookB;rw [show (decide (1≤g) && decide (g≤5))=true from h1,show decide (1≤fs.length)=true from by simp;omega,show decide ((fs.length:Int)≤4)=decide (fs.length≤4) from by rw [decide_eq_decide];omega];simp
    · refine Ev.congr (f:=fun k=>saronref05_Check.j0 k false g fs) (fun k=>?_) (ev_cast (key _) ?_)
      · unfold saronref05_Check.f;rw [sits_eq,h1,Option.bind_some,if_pos rfl,if_neg h2]
      · unfold bookB;rw [show decide (1≤fs.length)=false from by rw [decide_eq_false_iff_not];omega];simp
theorem rtones_l0 (l:List Int) (hl:l.length≤9223372036854775807):∀ (d i:Nat) (ok:Bool),i+d=l.length→Ev (fun k=>saronref09_areTones.l0 k l ok i) (ok && !((l.drop i).any badTone))
  | d,i,false,h=>by
    refine Ev.step (f:=fun _=>some false) (fun k=>?_) (Ev.now _)
    simp only [saronref09_areTones.l0];rw [if_neg (by simp)]
  | 0,i,true,h=>by
    refine Ev.step (f:=fun _=>some true) (fun k=>?_) ?_
    · simp only [saronref09_areTones.l0];rw [if_pos trivial,if_neg (by omega)]
    · rw [List.drop_eq_nil_of_le (by omega)];exact Ev.now _
  | d+1,i,true,h=>by
    have hi:i<l.length:=by omega
    have e1:wrap64 ((i:Int)+1)=((i+1:Nat):Int):=by rw [w64 (by omega) (by omega)];omega
    refine Ev.step (f:=fun k=>saronref09_areTones.l0 k l (liesB (rd l i) 0 6) ((i+1:Nat):Int)) (fun k=>?_) ?_
    · simp only [saronref09_areTones.l0];rw [if_pos trivial,if_pos (by omega),if_pos (by omega),sits_eq,Option.bind_some,e1]
    · refine ev_cast (rtones_l0 l hl d (i+1) _ (by omega)) ?_
      rw [rd_cons l i hi,List.any_cons,badTone]
      cases liesB (rd l i) 0 6 <;> simp
theorem rtones_ev (l:List Int) (least:Int) (hl:l.length≤9223372036854775807):Ev (fun k=>saronref09_areTones.f k l least 24) (areT l least):=by
  refine Ev.congr (f:=fun k=>saronref09_areTones.l0 k l (liesB l.length least 24) ((0:Nat):Int)) (fun k=>?_) ?_
  · unfold saronref09_areTones.f;rw [sits_eq];rfl
  · simpa [areT] using rtones_l0 l hl l.length 0 (liesB l.length least 24) (by omega)
/-- Sizes that memory can have. -/
def FitPieces (ps:List S62):Prop:=ps.length≤9223372036854775807∧∀ p ∈ ps,p.f1.length≤9223372036854775807
theorem rhcheck_no (g:Int) (fs:List S85) (ps:List S62) (i:Int):Ev (fun k=>saronref09_Check.l0 k false i g fs ps) 90:=by
  refine Ev.step (f:=fun k=>saronref09_Check.j2 k false i false g fs ps) (fun k=>?_) ?_
  · simp only [saronref09_Check.l0];rw [if_neg (by simp)]
  · refine Ev.step (f:=fun _=>some 90) (fun k=>?_) (Ev.now _)
    simp only [saronref09_Check.j2];rw [if_neg (by simp),if_neg (by simp)]
theorem rhcheck_l0 (g:Int) (fs:List S85) (ps:List S62) (hp:FitPieces ps) (hf:fs.length≤9223372036854775807) :
    ∀ (d i:Nat) (ok:Bool),i+d=ps.length→Ev (fun k=>saronref09_Check.l0 k ok i g fs ps) (if (ok && (ps.drop i).all (pieceOk fs.length))=true then 0 else 90)
  | d,i,false,h=>ev_cast (rhcheck_no g fs ps i) (by simp)
  | 0,i,true,h=>by
    refine Ev.step (f:=fun k=>saronref09_Check.j2 k true i false g fs ps) (fun k=>?_) ?_
    · simp only [saronref09_Check.l0];rw [if_pos trivial,show decide ((i:Int)<(ps.length:Int))=false from by simp;omega]
    · refine Ev.step (f:=fun _=>some 0) (fun k=>?_) ?_
      · simp only [saronref09_Check.j2];rw [if_neg (by simp),if_pos trivial]
      · rw [List.drop_eq_nil_of_le (by omega)];exact ev_cast (Ev.now _) (by simp)
  | d+1,i,true,h=>by
    have hi:i<ps.length:=by omega
    have e1:wrap64 ((i:Int)+1)=((i+1:Nat):Int):=by rw [w64 (by have:=hp.1;omega) (by have:=hp.1;omega)];omega
    have e2:wrap64 ((fs.length:Int) - 1)=(fs.length:Int) - 1:=w64 (by omega) (by omega)
    have hml:=hp.2 _ (rd_T62_mem ps i hi)
    refine Ev.step (f:=fun k=>saronref09_Check.j2 k true i true g fs ps) (fun k=>?_) ?_
    · simp only [saronref09_Check.l0];rw [if_pos trivial,show decide ((i:Int)<(ps.length:Int))=true from by simp;omega]
    cases hc:liesB (rd_T62 ps i).f0 0 ((fs.length:Int) - 1) with
    | false =>
      refine Ev.step (f:=fun k=>saronref09_Check.l0 k false ((i+1:Nat):Int) g fs ps) (fun k=>?_) ?_
      · simp only [saronref09_Check.j2];rw [if_pos trivial,if_pos (by omega),if_pos (by omega),sits_eq,Option.bind_some,e1,e2,hc,if_neg (by simp)]
      · refine ev_cast (rhcheck_l0 g fs ps hp hf d (i+1) false (by omega)) ?_
        rw [rd_T62_cons ps i hi,List.all_cons,pieceOk,hc];simp
    | true =>
      refine Ev.step (f:=fun k=>(saronref09_areTones.f k (rd_T62 ps i).f1 1 24).bind fun t=>saronref09_Check.l0 k t ((i+1:Nat):Int) g fs ps) (fun k=>?_) ?_
      · simp only [saronref09_Check.j2];rw [if_pos trivial,if_pos (by omega),if_pos (by omega),sits_eq,Option.bind_some,e1,e2,hc,if_pos rfl]
      · refine Ev.bind (rtones_ev _ 1 hml) ?_
        refine ev_cast (rhcheck_l0 g fs ps hp hf d (i+1) _ (by omega)) ?_
        rw [rd_T62_cons ps i hi,List.all_cons,pieceOk,hc];simp
theorem rhcheck_ev (g:Int) (fs:List S85) (ps:List S62) (hff:FitForms fs) (hp:FitPieces ps):Ev (fun k=>saronref09_Check.f k g fs ps) (if bookOk g fs ps=true then 0 else 90):=by
  have key:∀ b,Ev (fun k=>saronref09_Check.j0 k b g fs ps) (if (b && ps.all (pieceOk fs.length))=true then 0 else 90):=fun b=>by
    refine Ev.step (f:=fun k=>saronref09_Check.l0 k b ((0:Nat):Int) g fs ps) (fun k=>rfl) ?_
    simpa using rhcheck_l0 g fs ps hp hff.1 ps.length 0 b (by omega)
  refine Ev.bind (f:=fun k e=>if e=0 then ((saronref00_Sits.f (ps.length:Int) 1 6).bind fun t=>saronref09_Check.j0 k t g fs ps) else saronref09_Check.j0 k false g fs ps) (rcheck_ev g fs hff) ?_
  unfold bookOk
  cases hb:bookB g fs with
  | true =>
    refine Ev.congr (f:=fun k=>saronref09_Check.j0 k (liesB ps.length 1 6) g fs ps) (fun k=>?_) (ev_cast (key _) (by simp))
    simp [sits_eq]
  | false =>
    refine Ev.congr (f:=fun k=>saronref09_Check.j0 k false g fs ps) (fun k=>?_) (ev_cast (key _) (by simp))
    simp
theorem rasked_ev (g:Int) (fs:List S85) (ps:List S62) (hff:FitForms fs) (hp:FitPieces ps) (b:Bool):Ev (fun k=>saronref09_asked.f k g fs ps b) (if bookOk g fs ps=true then (if b=true then 0 else 91) else 90):=by
  refine ev_map (rhcheck_ev g fs ps hff hp) (fun k hk=>?_)
  unfold saronref09_asked.f
  rw [hk]
  cases bookOk g fs ps <;> cases b <;> simp
theorem isPiece_eq (g:Int) (fs:List S85) (ps:List S62) (hp:ps.length≤9223372036854775807) (n:Int):saronref09_isPiece.f g fs ps n=some (liesB n 0 ((ps.length:Int) - 1)):=by
  have e2:wrap64 ((ps.length:Int) - 1)=(ps.length:Int) - 1:=w64 (by omega) (by omega)
  unfold saronref09_isPiece.f;rw [e2,sits_eq];rfl
end Go.Proofs.YthnilelmhpmanaaDoor.PHeardFits
end
section
namespace Go.Proofs.YthnilelmhpmanaaDoor.PHeardFits
open Go.RowKit Go.Proofs.YthnilelmhpmanaaDoorW.PrintWords Go.Proofs.YthnilelmhpmanaaDoorW.PrintLast Go.Proofs.YthnilelmhpmanaaDoorW.PrintMore
set_option linter.unusedVariables false
set_option linter.unusedSimpArgs false
theorem lcs_rev (a b:List Int):lcsP a.reverse b.reverse=lcsP a b:=by
  have h1:∀ a b:List Int,lcsP a b≤lcsP a.reverse b.reverse:=fun a b=>by
    obtain ⟨z,h1,h2,h3⟩:=lcs_ex a b
    have h4:=lcs_ge _ _ _ h1.reverse h2.reverse
    rw [List.length_reverse] at h4
    omega
  have h2:=h1 a b
  have h3:=h1 a.reverse b.reverse
  rw [List.reverse_reverse,List.reverse_reverse] at h3
  omega
theorem mx_comm (a b:Int):mx a b=mx b a:=by unfold mx;split <;> split <;> omega
theorem lcs_snoc (a b:List Int) (x y:Int):lcsP (a ++ [x]) (b ++ [y])=if x=y then mx (mx (lcsP (a ++ [x]) b) (lcsP a (b ++ [y]))) (lcsP a b+1) else mx (lcsP (a ++ [x]) b) (lcsP a (b ++ [y])):=by
  rw [← lcs_rev (a ++ [x]) (b ++ [y]),← lcs_rev (a ++ [x]) b,← lcs_rev a (b ++ [y]),← lcs_rev a b]
  simp only [List.reverse_append,List.reverse_cons,List.reverse_nil,List.nil_append,List.cons_append]
  rw [lcsP_cons,mx_comm (lcsP (x :: a.reverse) b.reverse),Int.add_comm _ 1]
theorem take_snoc (a:List Int) (i:Nat) (h:i<a.length):a.take (i+1)=a.take i ++ [rd a i]:=by
  rw [List.take_add_one,List.getElem?_eq_getElem h,rd_nat,List.getD_eq_getElem?_getD,List.getElem?_eq_getElem h];rfl
/-- The row of the reference's table behind so many tones of the first list. -/
def rowP (a b:List Int) (i:Nat):List Int:=(List.range (b.length+1)).map (fun j=>lcsP (a.take i) (b.take j))
/-- The next row, as far as it is filled. -/
def nextP (a b:List Int) (i k:Nat):List Int:=(List.range (b.length+1)).map (fun j=>if j≤k then lcsP (a.take (i+1)) (b.take j) else 0)
theorem rowP_rd (a b:List Int) (i j:Nat) (h:j≤b.length):rd (rowP a b i) (j:Int)=lcsP (a.take i) (b.take j):=by
  rw [rd_nat,rowP,List.getD_eq_getElem?_getD,List.getElem?_map,List.getElem?_range (by omega)];rfl
theorem nextP_rd (a b:List Int) (i k j:Nat) (h:j≤k) (h2:k≤b.length):rd (nextP a b i k) (j:Int)=lcsP (a.take (i+1)) (b.take j):=by
  rw [rd_nat,nextP,List.getD_eq_getElem?_getD,List.getElem?_map,List.getElem?_range (by omega)];simp [h]
theorem rowP_len (a b:List Int) (i:Nat):(rowP a b i).length=b.length+1:=by simp [rowP]
theorem nextP_len (a b:List Int) (i k:Nat):(nextP a b i k).length=b.length+1:=by simp [nextP]
theorem nextP_zero (a b:List Int) (i:Nat):List.replicate (b.length+1) 0=nextP a b i 0:=by
  refine List.ext_getElem (by simp [nextP]) (fun n h1 h2=>?_)
  simp only [nextP,List.getElem_replicate,List.getElem_map,List.getElem_range]
  split
  · have:n=0:=by omega
    subst this;simp [lcsP_nil2]
  · rfl
theorem rowP_zero (a b:List Int):List.replicate (b.length+1) 0=rowP a b 0:=by
  refine List.ext_getElem (by simp [rowP]) (fun n h1 h2=>?_)
  simp [rowP,lcsP_nil]
theorem nextP_full (a b:List Int) (i:Nat):nextP a b i b.length=rowP a b (i+1):=by
  refine List.ext_getElem (by simp [rowP,nextP]) (fun n h1 h2=>?_)
  rw [nextP_len] at h1
  simp only [nextP,rowP,List.getElem_map,List.getElem_range]
  rw [if_pos (by omega)]
theorem nextP_set (a b:List Int) (i k:Nat):(nextP a b i k).set (k+1) (lcsP (a.take (i+1)) (b.take (k+1)))=nextP a b i (k+1):=by
  refine List.ext_getElem (by simp [nextP]) (fun n h1 h2=>?_)
  rw [List.getElem_set]
  simp only [nextP,List.getElem_map,List.getElem_range]
  split
  · rename_i h;subst h;simp
  · by_cases h:n≤k
    · rw [if_pos h,if_pos (by omega)]
    · rw [if_neg h,if_neg (by omega)]
theorem rd_set (l:List Int) (n:Nat) (v:Int) (h:n<l.length):rd (l.set n v) (n:Int)=v:=by
  rw [rd_nat,List.getD_eq_getElem?_getD,List.getElem?_set_self h];rfl
theorem share_l1 (a b:List Int) (ha:a.length≤1000) (hb:b.length≤1000) (i:Nat) (hi:i<a.length) (r:Int) (hr:Ev (fun k=>saronref09_share.l0 k a b (rowP a b (i+1)) ((i+1:Nat):Int)) r) :
    ∀ (d k:Nat),k+d=b.length→Ev (fun n=>saronref09_share.l1 n a b (rowP a b i) i (nextP a b i k) k) r
  | 0,k,h=>by
    have e1:wrap64 ((i:Int)+1)=((i+1:Nat):Int):=by rw [w64 (by omega) (by omega)];omega
    refine Ev.step (fun n=>?_) hr
    simp only [saronref09_share.l1]
    rw [if_neg (by omega),e1,show k=b.length by omega,nextP_full]
  | d+1,k,h=>by
    have e1:wrap64 ((k:Int)+1)=((k+1:Nat):Int):=by rw [w64 (by omega) (by omega)];omega
    have n1:=nextP_len a b i k
    have n2:=rowP_len a b i
    have t1:=take_snoc a i hi
    have t2:=take_snoc b k (by omega)
    have hsn:=lcs_snoc (a.take i) (b.take k) (rd a i) (rd b k)
    rw [← t1,← t2] at hsn
    have b1:=lcsP_bd (a.take i) (b.take k)
    have b2:(a.take i).length≤a.length:=by simp;omega
    have e2:wrap64 (lcsP (a.take i) (b.take k)+1)=lcsP (a.take i) (b.take k)+1:=w64 (by omega) (by omega)
    refine Ev.step (f:=fun n=>saronref09_share.l1 n a b (rowP a b i) i (nextP a b i (k+1)) ((k+1:Nat):Int)) (fun n=>?_) (share_l1 a b ha hb i hi r hr d (k+1) (by omega))
    simp only [saronref09_share.l1]
    rw [if_pos (by omega),if_pos (by omega),if_pos (by omega),e1,if_pos (by omega),if_pos (by omega),if_pos (by omega),Option.bind_some,if_pos (by omega),if_pos (by omega)]
    rw [nextP_rd a b i k k (Nat.le_refl k) (by omega),rowP_rd a b i (k+1) (by omega),rowP_rd a b i k (by omega),Int.toNat_natCast,rd_set _ _ _ (by omega),List.set_set,e2]
    by_cases hc:rd a i=rd b k
    · rw [if_pos hc] at hsn
      rw [if_pos hc,if_pos (by omega),← hsn,nextP_set]
    · rw [if_neg hc] at hsn
      rw [if_neg hc,← hsn,nextP_set]
theorem share_l0 (a b:List Int) (ha:a.length≤1000) (hb:b.length≤1000):∀ (d i:Nat),i+d=a.length→Ev (fun n=>saronref09_share.l0 n a b (rowP a b i) i) (lcsP a b)
  | 0,i,h=>by
    have n2:=rowP_len a b i
    refine Ev.step (f:=fun _=>some (lcsP a b)) (fun n=>?_) (Ev.now _)
    simp only [saronref09_share.l0]
    rw [if_neg (by omega),if_pos (by omega),if_pos (by omega),rowP_rd a b i _ (Nat.le_refl _),List.take_of_length_le (by omega),List.take_of_length_le (Nat.le_refl _)]
  | d+1,i,h=>by
    have e1:wrap64 ((b.length:Int)+1)=((b.length+1:Nat):Int):=by rw [w64 (by omega) (by omega)];omega
    refine Ev.step (f:=fun n=>saronref09_share.l1 n a b (rowP a b i) i (nextP a b i 0) ((0:Nat):Int)) (fun n=>?_) (share_l1 a b ha hb i (by omega) _ (share_l0 a b ha hb d (i+1) (by omega)) b.length 0 (by omega))
    simp only [saronref09_share.l0]
    rw [if_pos (by omega),e1,if_pos (by omega),Int.toNat_natCast,if_pos (by omega),nextP_zero a b i];rfl
theorem share_ev (a b:List Int) (ha:a.length≤1000) (hb:b.length≤1000):Ev (fun k=>saronref09_share.f k a b) (lcsP a b):=by
  have e1:wrap64 ((b.length:Int)+1)=((b.length+1:Nat):Int):=by rw [w64 (by omega) (by omega)];omega
  refine Ev.congr (fun n=>?_) (share_l0 a b ha hb a.length 0 (by omega))
  unfold saronref09_share.f
  rw [e1,if_pos (by omega),Int.toNat_natCast,if_pos (by omega),rowP_zero a b];rfl
end Go.Proofs.YthnilelmhpmanaaDoor.PHeardFits
end
section
namespace Go.Proofs.YthnilelmhpmanaaDoor.PHeardFits
open Go.RowKit Go.Proofs.YthnilelmhpmanaaDoorW.PrintWords Go.Proofs.YthnilelmhpmanaaDoorW.PrintLast Go.Proofs.YthnilelmhpmanaaDoorW.PrintMore
set_option linter.unusedVariables false
set_option linter.unusedSimpArgs false
theorem ptones_len {g:Int} {fs:List S85} {ps:List S62} (hok:bookOk g fs ps=true) (i:Nat) (hi:i<ps.length):(ptones ps i).length≤1000:=by
  have:=(bookOk_piece hok i hi).2.1;omega
def commonP (g:Int) (fs:List S85) (ps:List S62) (a b:Int):Int×Int:=if bookOk g fs ps=true then (if (liesB a 0 ((ps.length:Int) - 1) && liesB b 0 ((ps.length:Int) - 1))=true then (lcsP (ptones ps a.toNat) (ptones ps b.toNat),0) else (0,91)) else (0,90)
theorem common_ev2 {g:Int} {fs:List S85} {ps:List S62} (hff:FitForms fs) (hp:ps.length≤9223372036854775807) (a b:Int):Ev (fun k=>heard_Common.f k g fs ps a b) (commonP g fs ps a b):=by
  unfold commonP
  have hc:=hcheck_ev g fs ps hff hp
  cases hok:bookOk g fs ps with
  | false =>
    rw [hok] at hc
    refine ev_map hc (fun k hk=>?_)
    unfold heard_Common.f
    rw [hk];simp
  | true =>
    have e2:wrap64 ((ps.length:Int) - 1)=(ps.length:Int) - 1:=w64 (by omega) (by omega)
    cases hl:(liesB a 0 ((ps.length:Int) - 1) && liesB b 0 ((ps.length:Int) - 1)) with
    | true =>
      have hl':=hl
      simp only [liesB,Bool.and_eq_true,decide_eq_true_eq] at hl'
      have:=common_ev hff hok a.toNat b.toNat (by omega) (by omega)
      rw [Int.toNat_of_nonneg (by omega),Int.toNat_of_nonneg (by omega)] at this
      simpa using this
    | false =>
      rw [hok] at hc
      refine ev_map hc (fun k hk=>?_)
      unfold heard_Common.f
      rw [hk,Option.bind_some,if_pos (by simp),e2,lies_eq,lies_eq]
      cases h1:liesB a 0 ((ps.length:Int) - 1) with
      | false=>simp
      | true =>
        rw [h1] at hl
        rw [show liesB b 0 ((ps.length:Int) - 1)=false from by simpa using hl]
        simp
theorem rcommon_ev {g:Int} {fs:List S85} {ps:List S62} (hff:FitForms fs) (hp:FitPieces ps) (a b:Int):Ev (fun k=>saronref09_Common.f k g fs ps a b) (commonP g fs ps a b):=by
  have hask:∀ t,Ev (fun k=>saronref09_asked.f k g fs ps t) _:=fun t=>rasked_ev g fs ps hff hp t
  unfold commonP
  cases h1:liesB a 0 ((ps.length:Int) - 1) with
  | false =>
    refine ev_map (hask false) (fun k hk=>?_)
    unfold saronref09_Common.f
    rw [isPiece_eq g fs ps hp.1,Option.bind_some,h1,if_neg (by simp),hk]
    cases bookOk g fs ps <;> simp
  | true =>
    cases h2:liesB b 0 ((ps.length:Int) - 1) with
    | false =>
      refine ev_map (hask false) (fun k hk=>?_)
      unfold saronref09_Common.f
      rw [isPiece_eq g fs ps hp.1,Option.bind_some,h1,if_pos rfl,isPiece_eq g fs ps hp.1,Option.bind_some,h2,hk]
      cases bookOk g fs ps <;> simp
    | true =>
      cases hok:bookOk g fs ps with
      | false =>
        refine ev_map (hask true) (fun k hk=>?_)
        unfold saronref09_Common.f
        rw [isPiece_eq g fs ps hp.1,Option.bind_some,h1,if_pos rfl,isPiece_eq g fs ps hp.1,Option.bind_some,h2,hk,hok]
        simp
      | true =>
        have h1':=h1
        have h2':=h2
        simp only [liesB,Bool.and_eq_true,decide_eq_true_eq] at h1' h2'
        have hs:=share_ev (ptones ps a.toNat) (ptones ps b.toNat) (ptones_len hok _ (by omega)) (ptones_len hok _ (by omega))
        have ea:((a.toNat:Nat):Int)=a:=Int.toNat_of_nonneg (by omega)
        have eb:((b.toNat:Nat):Int)=b:=Int.toNat_of_nonneg (by omega)
        refine Ev.congr (f:=fun k=>(saronref09_asked.f k g fs ps true).bind fun t510=>(if t510=0 then ((saronref09_share.f k (ptones ps a.toNat) (ptones ps b.toNat)).bind fun t513=>some (t513,0)) else some (0,t510))) (fun k=>?_) ?_
        · unfold saronref09_Common.f
          rw [isPiece_eq g fs ps hp.1,Option.bind_some,h1,if_pos rfl,isPiece_eq g fs ps hp.1,Option.bind_some,h2,if_pos (by omega),if_pos (by omega),if_pos (by omega),if_pos (by omega)]
          unfold ptones
          rw [ea,eb]
        · refine Ev.bind (hask true) ?_
          rw [hok]
          refine ev_map hs (fun k hk=>?_)
          simp [hk]
def wholeP (g:Int) (fs:List S85) (ps:List S62) (tones:List Int) (lost:Int):List Int×Int:=if bookOk g fs ps=true then (if (areT tones 0 && liesB lost 0 6)=true then (idxL (wholeQ ps tones lost) ps.length 0,0) else ([],91)) else ([],90)
theorem whole_ev2 {g:Int} {fs:List S85} {ps:List S62} (hff:FitForms fs) (hp:ps.length≤9223372036854775807) (tones:List Int) (lost:Int):Ev (fun k=>heard_Whole.f k g fs ps tones lost) (wholeP g fs ps tones lost):=by
  unfold wholeP
  have hc:=hcheck_ev g fs ps hff hp
  cases hok:bookOk g fs ps with
  | false =>
    rw [hok] at hc
    refine ev_map hc (fun k hk=>?_)
    unfold heard_Whole.f
    rw [hk];simp
  | true =>
    cases hl:(areT tones 0 && liesB lost 0 6) with
    | true =>
      simp only [Bool.and_eq_true] at hl
      have:=whole_ev hff hok tones lost hl.1 (by simpa [liesB] using hl.2)
      simpa using this
    | false =>
      rw [hok] at hc
      refine ev_map hc (fun k hk=>?_)
      unfold heard_Whole.f
      rw [hk,Option.bind_some,if_pos (by simp),areT_eq]
      cases h1:areT tones 0 with
      | false=>simp
      | true =>
        rw [h1] at hl
        rw [show liesB lost 0 6=false from by simpa using hl]
        simp
theorem rwhole_l0 {g:Int} {fs:List S85} {ps:List S62} (hok:bookOk g fs ps=true) (tones:List Int) (lost:Int) (ht:tones.length≤24):∀ (d i:Nat) (acc:List Int),i+d=ps.length→acc.length≤i→Ev (fun k=>saronref09_Whole.l0 k tones lost acc i g fs ps) (acc ++ idxL (wholeQ ps tones lost) d i,0)
  | 0,i,acc,h,ha=>by
    refine Ev.step (f:=fun _=>some (acc,0)) (fun k=>?_) (ev_cast (Ev.now _) (by simp [idxL]))
    simp only [saronref09_Whole.l0];rw [if_neg (by omega)]
  | d+1,i,acc,h,ha=>by
    obtain ⟨b1,b2,b3⟩:=bookOk_ps hok
    have hi:i<ps.length:=by omega
    have e1:wrap64 ((i:Int)+1)=((i+1:Nat):Int):=by rw [w64 (by omega) (by omega)];omega
    have pl:=(bookOk_piece hok i hi).2.1
    have e2:wrap64 (((rd_T62 ps i).f1.length:Int) - (tones.length:Int))=((ptones ps i).length:Int) - tones.length:=w64 (by omega) (by unfold ptones at pl;omega)
    have hs:=share_ev (ptones ps i) tones (by omega) (by omega)
    refine Ev.step (f:=fun k=>(saronref09_share.f k (ptones ps i) tones).bind fun t524=>(if t524=(tones.length:Int) then (if ((ptones ps i).length:Int) - tones.length≤lost then saronref09_Whole.l0 k tones lost (acc ++ [(i:Int)]) ((i+1:Nat):Int) g fs ps else saronref09_Whole.l0 k tones lost acc ((i+1:Nat):Int) g fs ps) else saronref09_Whole.l0 k tones lost acc ((i+1:Nat):Int) g fs ps)) (fun k=>?_) ?_
    · simp only [saronref09_Whole.l0];rw [if_pos (by omega),if_pos (by omega),e1,e2,if_pos (show acc.length<17592186044416 by omega)];rfl
    · refine Ev.bind hs ?_
      have hq:wholeQ ps tones lost i=(decide (lcsP (ptones ps i) tones=(tones.length:Int)) && decide (((ptones ps i).length:Int) - tones.length≤lost)):=rfl
      by_cases c1:lcsP (ptones ps i) tones=(tones.length:Int)
      · by_cases c2:((ptones ps i).length:Int) - tones.length≤lost
        · refine Ev.congr (f:=fun k=>saronref09_Whole.l0 k tones lost (acc ++ [(i:Int)]) ((i+1:Nat):Int) g fs ps) (fun k=>by rw [if_pos c1,if_pos c2]) ?_
          refine ev_cast (rwhole_l0 hok tones lost ht d (i+1) (acc ++ [(i:Int)]) (by omega) (by simp;omega)) ?_
          rw [show idxL (wholeQ ps tones lost) (d+1) i=if wholeQ ps tones lost i=true then (i:Int) :: idxL (wholeQ ps tones lost) d (i+1) else idxL (wholeQ ps tones lost) d (i+1) from rfl,if_pos (by rw [hq];simp [c1,c2])]
          simp
        · refine Ev.congr (f:=fun k=>saronref09_Whole.l0 k tones lost acc ((i+1:Nat):Int) g fs ps) (fun k=>by rw [if_pos c1,if_neg c2]) ?_
          refine ev_cast (rwhole_l0 hok tones lost ht d (i+1) acc (by omega) (by omega)) ?_
          rw [show idxL (wholeQ ps tones lost) (d+1) i=if wholeQ ps tones lost i=true then (i:Int) :: idxL (wholeQ ps tones lost) d (i+1) else idxL (wholeQ ps tones lost) d (i+1) from rfl,if_neg (by rw [hq];simp [c1,c2])]
      · refine Ev.congr (f:=fun k=>saronref09_Whole.l0 k tones lost acc ((i+1:Nat):Int) g fs ps) (fun k=>by rw [if_neg c1]) ?_
        refine ev_cast (rwhole_l0 hok tones lost ht d (i+1) acc (by omega) (by omega)) ?_
        rw [show idxL (wholeQ ps tones lost) (d+1) i=if wholeQ ps tones lost i=true then (i:Int) :: idxL (wholeQ ps tones lost) d (i+1) else idxL (wholeQ ps tones lost) d (i+1) from rfl,if_neg (by rw [hq];simp [c1])]
theorem rwhole_ev {g:Int} {fs:List S85} {ps:List S62} (hff:FitForms fs) (hp:FitPieces ps) (tones:List Int) (lost:Int) (ht:tones.length≤9223372036854775807):Ev (fun k=>saronref09_Whole.f k g fs ps tones lost) (wholeP g fs ps tones lost):=by
  have hask:∀ t,Ev (fun k=>saronref09_asked.f k g fs ps t) _:=fun t=>rasked_ev g fs ps hff hp t
  have hj:∀ e,e≠0→Ev (fun k=>saronref09_Whole.j0 k tones lost e g fs ps) ([],e):=fun e he=>by
    refine Ev.step (f:=fun _=>some ([],e)) (fun k=>?_) (Ev.now _)
    simp only [saronref09_Whole.j0];rw [if_neg he]
  have hj0:bookOk g fs ps=true→areT tones 0=true→Ev (fun k=>saronref09_Whole.j0 k tones lost 0 g fs ps) (idxL (wholeQ ps tones lost) ps.length 0,0):=fun hok hat=>by
    refine Ev.step (f:=fun k=>saronref09_Whole.l0 k tones lost [] ((0:Nat):Int) g fs ps) (fun k=>rfl) ?_
    unfold areT at hat
    simp only [Bool.and_eq_true,liesB,decide_eq_true_eq] at hat
    simpa using rwhole_l0 hok tones lost (by omega) ps.length 0 [] (by omega) (by simp)
  unfold wholeP
  refine Ev.bind (f:=fun k t519=>(if t519=true then ((saronref00_Sits.f lost 0 6).bind fun t520=>((saronref09_asked.f k g fs ps t520).bind fun t521=>(saronref09_Whole.j0 k tones lost t521 g fs ps))) else ((saronref09_asked.f k g fs ps false).bind fun t522=>(saronref09_Whole.j0 k tones lost t522 g fs ps)))) (rtones_ev tones 0 ht) ?_
  cases h1:areT tones 0 with
  | false =>
    refine Ev.congr (f:=fun k=>(saronref09_asked.f k g fs ps false).bind fun t522=>(saronref09_Whole.j0 k tones lost t522 g fs ps)) (fun k=>by rw [if_neg (by simp)]) ?_
    refine Ev.bind (hask false) ?_
    cases hok:bookOk g fs ps with
    | false=>exact hj 90 (by decide)
    | true=>exact hj 91 (by decide)
  | true =>
    refine Ev.congr (f:=fun k=>(saronref09_asked.f k g fs ps (liesB lost 0 6)).bind fun t522=>(saronref09_Whole.j0 k tones lost t522 g fs ps)) (fun k=>by rw [if_pos rfl,sits_eq,Option.bind_some]) ?_
    refine Ev.bind (hask _) ?_
    cases hok:bookOk g fs ps with
    | false=>exact hj 90 (by decide)
    | true =>
      cases liesB lost 0 6 with
      | false=>exact hj 91 (by decide)
      | true=>exact hj0 hok h1
end Go.Proofs.YthnilelmhpmanaaDoor.PHeardFits
end
section
namespace Go.Proofs.YthnilelmhpmanaaDoor.PHeardFits
open Go.RowKit Go.Proofs.YthnilelmhpmanaaDoorW.PrintWords Go.Proofs.YthnilelmhpmanaaDoorW.PrintLast Go.Proofs.YthnilelmhpmanaaDoorW.PrintMore
set_option linter.unusedVariables false
set_option linter.unusedSimpArgs false
theorem w01:wrap64 (0+1)=1:=w64 (by omega) (by omega)
theorem kgreat_ev (x y:Int):Ev (fun k=>heard_greatest_int.f k x [y]) (mx x y):=by
  refine Ev.step (f:=fun k=>heard_greatest_int.l0 k (mx x y) [y] 1 1) (fun k=>?_) ?_
  · unfold heard_greatest_int.f;simp only [heard_greatest_int.l0]
    rw [if_pos (by simp),if_pos (by omega),if_pos (by simp),w01];rfl
  · refine Ev.step (f:=fun _=>some (mx x y)) (fun k=>?_) (Ev.now _)
    simp only [heard_greatest_int.l0];rw [if_neg (by omega)]
theorem kturned_ev (y:Int) (h : -9223372036854775807≤y) (h2:y≤9223372036854775807):Ev (fun k=>heard_turned_int.f k [y]) [-y]:=by
  refine Ev.step (f:=fun k=>heard_turned_int.l0 k [-y] [y] 1 1) (fun k=>?_) ?_
  · unfold heard_turned_int.f;simp only [heard_turned_int.l0]
    rw [if_pos (by simp),if_pos (by omega),if_pos (by simp),if_pos (by simp)]
    rw [show wrap64 (-(rd [y] 0)) = -y from w64 (by show -9223372036854775808 ≤ -y;omega) (by show -y≤9223372036854775807;omega),w01];rfl
  · refine Ev.step (f:=fun _=>some [-y]) (fun k=>?_) (Ev.now _)
    simp only [heard_turned_int.l0];rw [if_neg (by omega)]
theorem kleast_ev (x y:Int) (h : -1000000≤x∧x≤1000000) (h2 : -1000000≤y∧y≤1000000):Ev (fun k=>heard_least_int.f k x [y]) (mn x y):=by
  refine Ev.bind (kturned_ev y (by omega) (by omega)) ?_
  have e1:wrap64 (-x) = -x:=w64 (by omega) (by omega)
  have hm : -1000000≤mx (-x) (-y)∧mx (-x) (-y)≤1000000:=by unfold mx;split <;> omega
  refine ev_map (kgreat_ev (-x) (-y)) (fun k hk=>?_)
  rw [e1,hk,Option.bind_some,w64 (by omega) (by omega)]
  congr 1
  unfold mx mn
  split <;> split <;> omega
/-- What is apart in two pieces. -/
def apart (ps:List S62) (i j:Nat):Int:=mx ((ptones ps i).length:Int) ((ptones ps j).length:Int) - lcsP (ptones ps i) (ptones ps j)
theorem apart_comm (ps:List S62) (i j:Nat):apart ps i j=apart ps j i:=by unfold apart;rw [mx_comm,lcs_comm]
theorem apart_bd {g:Int} {fs:List S85} {ps:List S62} (hok:bookOk g fs ps=true) (i j:Nat) (hi:i<ps.length) (hj:j<ps.length):0≤apart ps i j∧apart ps i j≤24:=by
  have h1:=(bookOk_piece hok i hi).2.1
  have h2:=(bookOk_piece hok j hj).2.1
  have h3:=lcsP_bd (ptones ps i) (ptones ps j)
  unfold apart
  have:=le_mx ((ptones ps i).length:Int) ((ptones ps j).length:Int)
  have:=mx_le (a:=((ptones ps i).length:Int)) (b:=((ptones ps j).length:Int)) (c:=24) (by omega) (by omega)
  omega
theorem rd_apart (ps:List S62) (i j:Nat):mx (((rd_T62 ps i).f1).length:Int) (((rd_T62 ps j).f1).length:Int) - lcsP (ptones ps i) (ptones ps j)=apart ps i j:=rfl
theorem least_nat (P:Nat→Prop) (n:Nat) (h:P n):∃ m,P m∧∀ q,P q→m≤q:=by
  induction n using Nat.strongRecOn with
  | ind n ih =>
    by_cases hc:∃ q,q<n∧P q
    · obtain ⟨q,hq,hp⟩:=hc
      exact ih q hq hp
    · exact ⟨n,h,fun q hq=>Nat.le_of_not_lt fun hl=>hc ⟨q,hl,hq⟩⟩
/-- The least that is apart in any two pieces. -/
def LeastApart (ps:List S62) (M:Int):Prop:=(∀ i j,j<i→i<ps.length→M≤apart ps i j)∧∃ i j,j<i∧i<ps.length∧M=apart ps i j
theorem leastApart_ex {g:Int} {fs:List S85} {ps:List S62} (hok:bookOk g fs ps=true) (h2:2≤ps.length):∃ M,LeastApart ps M∧0≤M∧M≤24:=by
  have h0:=apart_bd hok 1 0 (by omega) (by omega)
  obtain ⟨m,⟨i,j,hji,hi,hm⟩,hl⟩:=least_nat (fun n=>∃ i j,j<i∧i<ps.length∧(n:Int)=apart ps i j) (apart ps 1 0).toNat ⟨1,0,by omega,by omega,by omega⟩
  refine ⟨m,⟨fun a b hba ha=>?_,i,j,hji,hi,hm⟩,by omega,by have:=apart_bd hok i j hi (by omega);omega⟩
  have hb:=apart_bd hok a b ha (by omega)
  have:=hl (apart ps a b).toNat ⟨a,b,hba,ha,by omega⟩
  omega
theorem kmn_le {a b c:Int} (h1:c≤a) (h2:c≤b):c≤mn a b:=by unfold mn;split <;> assumption
theorem kmn_bd (a b:Int):mn a b≤a∧mn a b≤b:=by unfold mn;split <;> omega
theorem rd_T62_take (ps:List S62) (i j:Nat) (h:j<i):rd_T62 (ps.take i) (j:Int)=rd_T62 ps (j:Int):=by
  unfold rd_T62
  rw [List.getD_eq_getElem?_getD,List.getD_eq_getElem?_getD,List.getElem?_take_of_lt (by simpa using h)]
/-- What Known says, from the least that is apart. -/
def knownR (M:Int):Int×Int:=if M=0 then (0,4) else (M - 1,0)
theorem known_l1 {g:Int} {fs:List S85} {ps:List S62} (hok:bookOk g fs ps=true) (M:Int) (hM:LeastApart ps M) (hM24:0≤M) (i:Nat) (hi:i<ps.length) (R:Int×Int)
    (hnext:∀ best,M≤best→best≤1000→(∀ a b,b<a→a<i+1→best≤apart ps a b)→Ev (fun k=>heard_Known.l0 k best ps (ps.length:Int) ((i+1:Nat):Int) g fs ps) R) :
    ∀ (d j:Nat) (best:Int),j+d=i→M≤best→best≤1000→(∀ a b,b<a→a<i→best≤apart ps a b)→(∀ b,b<j→best≤apart ps i b) →
      Ev (fun k=>heard_Known.l1 k best ps (ps.length:Int) i (ps.take i) ((ps.take i).length:Int) j g fs ps (rd_T62 ps i).f0 (rd_T62 ps i).f1) R
  | 0,j,best,h,h1,h2,h3,h4=>by
    have e1:wrap64 ((i:Int)+1)=((i+1:Nat):Int):=by have:=bookOk_ps hok;rw [w64 (by omega) (by omega)];omega
    have hl:(ps.take i).length=i:=by simp;omega
    refine Ev.step (fun k=>?_) (hnext best h1 h2 (fun a b hb ha=>?_))
    · simp only [heard_Known.l1];rw [if_neg (by omega),e1]
    · by_cases hc:a<i
      · exact h3 a b hb hc
      · have:a=i:=by omega
        subst this;exact h4 b (by omega)
  | d+1,j,best,h,h1,h2,h3,h4=>by
    have hbk:=bookOk_ps hok
    have e1:wrap64 ((j:Int)+1)=((j+1:Nat):Int):=by rw [w64 (by omega) (by omega)];omega
    have hl:(ps.take i).length=i:=by simp;omega
    have hab:=apart_bd hok i j hi (by omega)
    have hMa:=hM.1 i j (by omega) hi
    have hm1:=kmn_bd best (apart ps i j)
    have hm2:=kmn_le h1 hMa
    have hcm:=common_f (ptones_len hok i hi) (ptones_len hok j (by omega))
    refine Ev.step (f:=fun k=>(heard_greatest_int.f k ((ptones ps i).length:Int) [((ptones ps j).length:Int)]).bind fun t327=>(heard_common.f (ptones ps i) (ptones ps j)).bind fun t328=>(heard_least_int.f k best [wrap64 (t327 - t328)]).bind fun t332=>heard_Known.l1 k t332 ps (ps.length:Int) i (ps.take i) ((ps.take i).length:Int) ((j+1:Nat):Int) g fs ps (rd_T62 ps i).f0 (rd_T62 ps i).f1) (fun k=>?_) ?_
    · simp only [heard_Known.l1];rw [if_pos (by omega),if_pos (by omega),if_pos (by omega),e1,rd_T62_take ps i j (by omega)];rfl
    · refine Ev.bind (kgreat_ev _ _) ?_
      have e3:wrap64 (mx ((ptones ps i).length:Int) ((ptones ps j).length:Int) - lcsP (ptones ps i) (ptones ps j))=apart ps i j:=w64 (by unfold apart at hab;omega) (by unfold apart at hab;omega)
      refine Ev.congr (f:=fun k=>(heard_least_int.f k best [apart ps i j]).bind fun t332=>heard_Known.l1 k t332 ps (ps.length:Int) i (ps.take i) ((ps.take i).length:Int) ((j+1:Nat):Int) g fs ps (rd_T62 ps i).f0 (rd_T62 ps i).f1) (fun k=>by rw [hcm,Option.bind_some,e3]) ?_
      refine Ev.bind (kleast_ev _ _ (by omega) (by omega)) ?_
      refine known_l1 hok M hM hM24 i hi R hnext d (j+1) _ (by omega) hm2 (by omega) (fun a b hb ha=>by have:=h3 a b hb ha;omega) (fun b hb=>?_)
      by_cases hc:b<j
      · have:=h4 b hc;omega
      · have:b=j:=by omega
        subst this;exact hm1.2
theorem known_l0 {g:Int} {fs:List S85} {ps:List S62} (hok:bookOk g fs ps=true) (M:Int) (hM:LeastApart ps M) (hM24:0≤M) :
    ∀ (d i:Nat) (best:Int),i+d=ps.length→M≤best→best≤1000→(∀ a b,b<a→a<i→best≤apart ps a b)→Ev (fun k=>heard_Known.l0 k best ps (ps.length:Int) i g fs ps) (knownR M)
  | 0,i,best,h,h1,h2,h3=>by
    obtain ⟨a,b,hba,ha,hMe⟩:=hM.2
    have:=h3 a b hba (by omega)
    have hb:best=M:=by omega
    subst hb
    refine Ev.step (f:=fun _=>some (knownR best)) (fun k=>?_) (Ev.now _)
    simp only [heard_Known.l0];rw [if_neg (by omega)]
    unfold knownR
    by_cases hz:best=0
    · rw [if_pos hz,if_pos hz]
    · rw [if_neg hz,if_neg hz,w64 (by omega) (by omega)]
  | d+1,i,best,h,h1,h2,h3=>by
    have hi:i<ps.length:=by omega
    refine Ev.step (f:=fun k=>heard_Known.l1 k best ps (ps.length:Int) i (ps.take i) ((ps.take i).length:Int) ((0:Nat):Int) g fs ps (rd_T62 ps i).f0 (rd_T62 ps i).f1) (fun k=>?_) ?_
    · simp only [heard_Known.l0];rw [if_pos (by omega),if_pos (by omega),if_pos (by omega),if_pos (by omega),Option.bind_some,Int.toNat_natCast];rfl
    · exact known_l1 hok M hM hM24 i hi _ (fun best' g1 g2 g3=>known_l0 hok M hM hM24 d (i+1) best' (by omega) g1 g2 g3) i 0 best (by omega) h1 h2 h3 (fun b hb=>absurd hb (Nat.not_lt_zero _))
/-- The answer, in one. -/
def KnownP (g:Int) (fs:List S85) (ps:List S62) (r:Int×Int):Prop:=if bookOk g fs ps=true then (if ps.length=1 then r=(((ptones ps 0).length:Int),0) else ∃ M,LeastApart ps M∧0≤M∧M≤24∧r=knownR M) else r=(0,90)
theorem knownP_ex (g:Int) (fs:List S85) (ps:List S62):∃ r,KnownP g fs ps r:=by
  unfold KnownP
  cases hok:bookOk g fs ps with
  | false=>exact ⟨_,by rw [if_neg (by simp)]⟩
  | true =>
    by_cases h1:ps.length=1
    · exact ⟨_,by rw [if_pos rfl,if_pos h1]⟩
    · obtain ⟨M,hM,h0,h24⟩:=leastApart_ex hok (by have:=bookOk_ps hok;omega)
      exact ⟨_,by rw [if_pos rfl,if_neg h1];exact ⟨M,hM,h0,h24,rfl⟩⟩
theorem known_ev {g:Int} {fs:List S85} {ps:List S62} (hff:FitForms fs) (hp:ps.length≤9223372036854775807) {r:Int×Int} (hr:KnownP g fs ps r):Ev (fun k=>heard_Known.f k g fs ps) r:=by
  refine Ev.bind (f:=fun k t314=>(if t314=0 then (if (ps.length:Int)=1 then (if 0<(ps.length:Int) then (some ((((rd_T62 ps 0).f1).length:Int),0)) else (none)) else (heard_Known.l0 k 1000 ps (ps.length:Int) 0 g fs ps)) else (some (0,t314)))) (hcheck_ev g fs ps hff hp) ?_
  unfold KnownP at hr
  cases hok:bookOk g fs ps with
  | false =>
    rw [hok,if_neg (by simp)] at hr
    subst hr
    exact Ev.now _
  | true =>
    rw [hok,if_pos rfl] at hr
    by_cases h1:ps.length=1
    · rw [if_pos h1] at hr
      subst hr
      refine Ev.congr (f:=fun _=>some (((ptones ps 0).length:Int),0)) (fun k=>?_) (Ev.now _)
      rw [if_pos rfl,if_pos rfl,if_pos (by omega),if_pos (by omega)];rfl
    · rw [if_neg h1] at hr
      obtain ⟨M,hM,h0,h24,rfl⟩:=hr
      refine Ev.congr (fun k=>?_) (known_l0 hok M hM h0 ps.length 0 1000 (by omega) (by omega) (by omega) (fun a b hb ha=>absurd ha (Nat.not_lt_zero _)))
      rw [if_pos rfl,if_pos rfl,if_neg (by omega)];rfl
theorem wrap_one {n:Int} (h:0≤n) (h2:n≤24):wrap64 (n - 1)=n - 1:=w64 (by omega) (by omega)
theorem rknown_step {g:Int} {fs:List S85} {ps:List S62} (hok:bookOk g fs ps=true) (n:Int) (i j:Nat) (hi:i<ps.length) (hj:j<ps.length) (R:Int×Int)
    (h0:apart ps i j=0→R=(0,4))
    (h1:apart ps i j≠0→Ev (fun k=>saronref09_Known.l1 k (if (i=0∧j=1)∨apart ps i j - 1<n then apart ps i j - 1 else n) i ((j+1:Nat):Int) g fs ps) R) :
    Ev (fun k=>saronref09_Known.l1 k n i j g fs ps) R:=by
  have hbk:=bookOk_ps hok
  have e1:wrap64 ((j:Int)+1)=((j+1:Nat):Int):=by rw [w64 (by omega) (by omega)];omega
  have hab:=apart_bd hok i j hi hj
  have hs:=share_ev (ptones ps i) (ptones ps j) (ptones_len hok i hi) (ptones_len hok j hj)
  have e3:wrap64 (mx (((rd_T62 ps i).f1).length:Int) (((rd_T62 ps j).f1).length:Int) - lcsP (ptones ps i) (ptones ps j))=apart ps i j:=by rw [rd_apart];exact w64 (by omega) (by omega)
  have e4:=wrap_one hab.1 hab.2
  refine Ev.step (f:=fun k=>(saronref09_share.f k (ptones ps i) (ptones ps j)).bind fun t523=>(if (wrap64 ((mx (((rd_T62 ps i).f1).length:Int) (((rd_T62 ps j).f1).length:Int)) - t523))=0 then (some (0,4)) else (if (i:Int)=0 then (if (j:Int)=1 then (saronref09_Known.l1 k (wrap64 ((wrap64 ((mx (((rd_T62 ps i).f1).length:Int) (((rd_T62 ps j).f1).length:Int)) - t523)) - 1)) i ((j+1:Nat):Int) g fs ps) else (if (wrap64 ((wrap64 ((mx (((rd_T62 ps i).f1).length:Int) (((rd_T62 ps j).f1).length:Int)) - t523)) - 1))<n then (saronref09_Known.l1 k (wrap64 ((wrap64 ((mx (((rd_T62 ps i).f1).length:Int) (((rd_T62 ps j).f1).length:Int)) - t523)) - 1)) i ((j+1:Nat):Int) g fs ps) else (saronref09_Known.l1 k n i ((j+1:Nat):Int) g fs ps))) else (if (wrap64 ((wrap64 ((mx (((rd_T62 ps i).f1).length:Int) (((rd_T62 ps j).f1).length:Int)) - t523)) - 1))<n then (saronref09_Known.l1 k (wrap64 ((wrap64 ((mx (((rd_T62 ps i).f1).length:Int) (((rd_T62 ps j).f1).length:Int)) - t523)) - 1)) i ((j+1:Nat):Int) g fs ps) else (saronref09_Known.l1 k n i ((j+1:Nat):Int) g fs ps))))) (fun k=>?_) ?_
  · simp only [saronref09_Known.l1]
    rw [if_pos (by omega),if_pos (by omega),if_pos (by omega),if_pos (by omega),e1];rfl
  · refine Ev.bind hs ?_
    rw [e3,e4]
    by_cases hz:apart ps i j=0
    · rw [h0 hz]
      exact Ev.congr (f:=fun _=>some (0,4)) (fun k=>by rw [if_pos hz]) (Ev.now _)
    · refine Ev.congr (fun k=>?_) (h1 hz)
      rw [if_neg hz]
      by_cases hi0:i=0
      · rw [if_pos (by omega)]
        by_cases hj1:j=1
        · rw [if_pos (by omega),if_pos (.inl ⟨hi0,hj1⟩)]
        · rw [if_neg (by omega)]
          by_cases hlt:apart ps i j - 1<n
          · rw [if_pos hlt,if_pos (.inr hlt)]
          · rw [if_neg hlt,if_neg (by omega)]
      · rw [if_neg (by omega)]
        by_cases hlt:apart ps i j - 1<n
        · rw [if_pos hlt,if_pos (.inr hlt)]
        · rw [if_neg hlt,if_neg (by omega)]
/-- What the reference keeps: behind some pair its number is the least so far. -/
def KeptN (ps:List S62) (M n:Int) (i j:Nat):Prop:=M - 1≤n∧∀ a b,a<b→b<ps.length→(a<i∨(a=i∧b<j))→n≤apart ps a b - 1
theorem rknown_l1 {g:Int} {fs:List S85} {ps:List S62} (hok:bookOk g fs ps=true) (M:Int) (hM:∀ i j,j<i→i<ps.length→M≤apart ps i j) (R:Int×Int) (i:Nat) (hi:i<ps.length)
    (h0:M=0→R=(0,4))
    (hnext:∀ n,(M=0→∃ a b,i<a∧a<b∧b<ps.length∧apart ps a b=0)→(M≠0→KeptN ps M n (i+1) 0∨(ps.length≤i+1∧i=0))→Ev (fun k=>saronref09_Known.l0 k n ((i+1:Nat):Int) g fs ps) R)
    (hM0:0≤M) :
    ∀ (d j:Nat) (n:Int),j+d=ps.length→i<j→(M=0→∃ a b,a<b∧b<ps.length∧(i<a∨(i=a∧j≤b))∧apart ps a b=0)→(M≠0→KeptN ps M n i j∨(i=0∧j=1))→Ev (fun k=>saronref09_Known.l1 k n i j g fs ps) R
  | 0,j,n,h,hij,hz,hk=>by
    have hbk:=bookOk_ps hok
    have e1:wrap64 ((i:Int)+1)=((i+1:Nat):Int):=by rw [w64 (by omega) (by omega)];omega
    refine Ev.step (fun k=>?_) (hnext n (fun hm=>?_) (fun hm=>?_))
    · simp only [saronref09_Known.l1];rw [if_neg (by omega),e1]
    · obtain ⟨a,b,hab,hb,ho,hz⟩:=hz hm
      exact ⟨a,b,by omega,hab,hb,hz⟩
    · rcases hk hm with hk|hk
      · refine .inl ⟨hk.1,fun a b hab hb ho=>hk.2 a b hab hb ?_⟩
        omega
      · exact .inr (by omega)
  | d+1,j,n,h,hij,hz,hk=>by
    have hMa:=hM j i hij (by omega)
    rw [apart_comm] at hMa
    refine rknown_step hok n i j hi (by omega) R (fun hc=>h0 (by omega)) (fun hc=>?_)
    refine rknown_l1 hok M hM R i hi h0 hnext hM0 d (j+1) _ (by omega) (by omega) (fun hm=>?_) (fun hm=>?_)
    · obtain ⟨a,b,hab,hb,ho,hz9⟩:=hz hm
      refine ⟨a,b,hab,hb,?_,hz9⟩
      rcases ho with ho | ⟨rfl,ho⟩
      · exact .inl ho
      · by_cases hbj:b=j
        · subst hbj;exact absurd hz9 hc
        · exact .inr ⟨rfl,by omega⟩
    · refine .inl ⟨?_,fun a b hab hb ho=>?_⟩
      · rcases hk hm with hk|hk
        · split
          · omega
          · exact hk.1
        · rw [if_pos (.inl hk)];omega
      · rcases hk hm with hk|hk
        · by_cases hcase:a=i∧b=j
          · obtain ⟨rfl,rfl⟩:=hcase
            split
            · omega
            · rename_i hh;omega
          · have:=hk.2 a b hab hb (by omega)
            split
            · rename_i hh
              rcases hh with hh|hh
              · have h1:=hk.2
                omega
              · omega
            · exact this
        · rw [if_pos (.inl hk)]
          obtain ⟨rfl,rfl⟩:=hk
          have:a=0∧b=1:=by omega
          obtain ⟨rfl,rfl⟩:=this
          omega
theorem rknown_l0 {g:Int} {fs:List S85} {ps:List S62} (hok:bookOk g fs ps=true) (M:Int) (hM:LeastApart ps M) (hM0:0≤M) (h2:2≤ps.length) :
    ∀ (d i:Nat) (n:Int),i+d=ps.length→(M=0→∃ a b,i≤a∧a<b∧b<ps.length∧apart ps a b=0)→(M≠0→KeptN ps M n i 0∨i=0)→Ev (fun k=>saronref09_Known.l0 k n i g fs ps) (knownR M)
  | 0,i,n,h,hz,hk=>by
    refine Ev.step (f:=fun _=>some (n,0)) (fun k=>?_) (ev_cast (Ev.now _) ?_)
    · simp only [saronref09_Known.l0];rw [if_neg (by omega)]
    · unfold knownR
      by_cases hm:M=0
      · obtain ⟨a,b,h1,h2,h3,h4⟩:=hz hm
        omega
      · rw [if_neg hm]
        rcases hk hm with hk|hk
        · obtain ⟨a,b,hba,ha,hMe⟩:=hM.2
          have:=hk.2 b a hba ha (by omega)
          rw [apart_comm] at hMe
          have:=hk.1
          have e:n=M - 1:=by omega
          rw [e]
        · omega
  | d+1,i,n,h,hz,hk=>by
    have hbk:=bookOk_ps hok
    have e1:wrap64 ((i:Int)+1)=((i+1:Nat):Int):=by rw [w64 (by omega) (by omega)];omega
    refine Ev.step (f:=fun k=>saronref09_Known.l1 k n i ((i+1:Nat):Int) g fs ps) (fun k=>?_) ?_
    · simp only [saronref09_Known.l0];rw [if_pos (by omega),e1]
    · refine rknown_l1 hok M hM.1 (knownR M) i (by omega) (fun hm=>by unfold knownR;rw [if_pos hm]) (fun n' hz' hk'=>?_) hM0 (d) (i+1) n (by omega) (by omega) (fun hm=>?_) (fun hm=>?_)
      · refine rknown_l0 hok M hM hM0 h2 d (i+1) n' (by omega) (fun hm=>?_) (fun hm=>?_)
        · obtain ⟨a,b,g1,g2,g3,g4⟩:=hz' hm
          exact ⟨a,b,by omega,g2,g3,g4⟩
        · rcases hk' hm with hk'|hk'
          · exact .inl hk'
          · omega
      · obtain ⟨a,b,g1,g2,g3,g4⟩:=hz hm
        exact ⟨a,b,g2,g3,by omega,g4⟩
      · rcases hk hm with hk|hk
        · refine .inl ⟨hk.1,fun a b hab hb ho=>hk.2 a b hab hb ?_⟩
          omega
        · exact .inr (by omega)
theorem rknown_ev {g:Int} {fs:List S85} {ps:List S62} (hff:FitForms fs) (hp:FitPieces ps) {r:Int×Int} (hr:KnownP g fs ps r):Ev (fun k=>saronref09_Known.f k g fs ps) r:=by
  refine Ev.bind (f:=fun k t519=>(if t519=0 then (if 0<(ps.length:Int) then (saronref09_Known.l0 k (((rd_T62 ps 0).f1).length:Int) 0 g fs ps) else (none)) else (some (0,t519)))) (rhcheck_ev g fs ps hff hp) ?_
  unfold KnownP at hr
  cases hok:bookOk g fs ps with
  | false =>
    rw [hok,if_neg (by simp)] at hr
    subst hr
    exact Ev.now _
  | true =>
    have hbk:=bookOk_ps hok
    rw [hok,if_pos rfl] at hr
    refine Ev.congr (f:=fun k=>saronref09_Known.l0 k (((rd_T62 ps 0).f1).length:Int) 0 g fs ps) (fun k=>by rw [if_pos rfl,if_pos rfl,if_pos (by omega)]) ?_
    by_cases h1:ps.length=1
    · rw [if_pos h1] at hr
      subst hr
      refine Ev.step (f:=fun k=>saronref09_Known.l1 k (((rd_T62 ps 0).f1).length:Int) 0 1 g fs ps) (fun k=>?_) ?_
      · simp only [saronref09_Known.l0];rw [if_pos (by omega),w01]
      refine Ev.step (f:=fun k=>saronref09_Known.l0 k (((rd_T62 ps 0).f1).length:Int) 1 g fs ps) (fun k=>?_) ?_
      · simp only [saronref09_Known.l1];rw [if_neg (by omega),w01]
      refine Ev.step (f:=fun _=>some (((ptones ps 0).length:Int),0)) (fun k=>?_) (Ev.now _)
      simp only [saronref09_Known.l0];rw [if_neg (by omega)];rfl
    · rw [if_neg h1] at hr
      obtain ⟨M,hM,h0,h24,rfl⟩:=hr
      refine rknown_l0 hok M hM h0 (by omega) ps.length 0 _ (by omega) (fun hm=>?_) (fun hm=>.inr rfl)
      obtain ⟨a,b,hba,ha,hMe⟩:=hM.2
      exact ⟨b,a,by omega,hba,ha,by rw [apart_comm];omega⟩
end Go.Proofs.YthnilelmhpmanaaDoor.PHeardFits
end
