/- The row of saronlaw09.HeardWholes: for every book and every number that it takes, the law returns true and leaves its arguments as they read; the card ties the listed variable to the program's text. Condition: none beyond the given row's own. -/
import Derived.SevenTiedAt
import Derived.Test.YthnilelmhpmanaaDoorCards
import Derived.Test.YthnilelmhpmanaaDoorTie
import Derived.Test.YthnilelmhpmanaaDoorWxq11
import Derived.Test.YthnilelmhpmanaaDoorWxq22
namespace Go.Proofs.YthnilelmhpmanaaDoor.heardWholes
open Go.ChangeShapes Go.WideShapes Go.ChangeAt Go.RowKit
open Go.Proofs.YthnilelmhpmanaaDoor.PHeardFits
set_option linter.unusedVariables false
set_option maxRecDepth 100000
theorem own:ownKnob Tryd.prog.godebug=none:=by kernel_rfl
theorem laidOut:laidOutB Tryd.prog=true:=by kernel_rfl
theorem lifted (os:Os) (started:os.Started) (H:Type) (enc:TypeId×Value→H) :
    ReturnsInHanded {} Tryd.checked os 6 .any (fun w args=>(Rows.heardWholesSpec.pre enc Tryd.prog Tryd.f6 [] false w args∧laidMetH Tryd.prog laid1 w)∧sizedMet enc Tryd.prog Tryd.f6 (OpenSpec.ofChange Rows.heardWholesSpec) false w args)
      (Rows.heardWholesSpec.post enc Tryd.prog Tryd.f6 false true false false):=by
  refine returnsInHanded_of_change_and (C:=Tryd.checked) (X:=fun w _=>laidMetH Tryd.prog laid1 w) (fun _ _ _ hh h=>h.of_heap hh) own started (by kernel_rfl) Tryd.func6
    (ChangeSpec.witness_shaped (enc:=enc) (C:=Tryd.checked) (os:=os) (X:=fun w _=>laidMetH Tryd.prog laid1 w) false (World.doorLaid Tryd.prog 600 os) #[.agg #[.int .i64 0,.slice none 0 0,.slice none 0 0],.agg #[.int .i64 0,.int .i64 0,.int .i64 0],.slice none 0 0] 8 rfl (World.shaped_of_RefB (by kernel_rfl) (by kernel_rfl)) (by kernel_rfl) (by kernel_rfl) (by kernel_rfl) (door_met os _)) ?_
  intro W base args ds gs before hval0 hW _ _ hL _
  have hval:∀ (j:Nat) t v,Tryd.f6.params[j]?=some t→args[j]?=some v→Value.okWide Tryd.prog W .any base t v:=hval0
  have hW':=hW
  obtain ⟨p,q,hA0,hV,rfl,hfz,hnd⟩:=hW
  have hA:DataW.TrodAll enc Tryd.prog W 0 (fun _=>true) true Tryd.f6.params.toList args.toList ds p:=hA0
  rw [Tryd.params6] at hA hval
  obtain ⟨v0,vs0,d0,ds0,p0,q0,hargs,rfl,rfl,h0,r0⟩:=trodAll_cons hA
  obtain ⟨v1,vs1,d1,ds1,p1,q1,rfl,rfl,rfl,h1,r1⟩:=trodAll_cons r0
  obtain ⟨v2,vs2,d2,ds2,p2,q2,rfl,rfl,rfl,h2,r2⟩:=trodAll_cons r1
  obtain ⟨rfl,rfl,rfl⟩:=trodAll_nil r2
  obtain rfl:args=#[v0,v1,v2]:=by cases args;simp_all
  obtain ⟨rfl,rfl⟩:=trodVars_none hV
  have hG:=glob_of hL
  have k0:=h0
  have lt0:∀ x ∈ p0,x.block<W.heap.size:=by obtain ⟨m,hm⟩:=k0;exact DataW.trod_lt m _ _ _ hm
  obtain ⟨g0,Af0,cf0,fs0,Ap0,cp0,ps0,rfl,hf0,hcf0,hp0,hcp0⟩:=arg27 (hval 0 27 v0 rfl rfl) h0
  have k1:=h1
  have lt1:∀ x ∈ p1,x.block<W.heap.size:=by obtain ⟨m,hm⟩:=k1;exact DataW.trod_lt m _ _ _ hm
  obtain ⟨a1,b1,c1,rfl,wa1,wb1,wc1⟩:=arg49 (hval 1 49 v1 rfl rfl) h1
  have k2:=h2
  have lt2:∀ x ∈ p2,x.block<W.heap.size:=by obtain ⟨m,hm⟩:=k2;exact DataW.trod_lt m _ _ _ hm
  obtain ⟨A2,c2,l2,rfl,hr2,hc2⟩:=arg28 (hval 2 28 v2 rfl rfl) h2
  clear hA0 hval0
  skip
  refine (wholes_any g0 Af0 cf0 fs0 Ap0 cp0 ps0 a1 b1 c1 A2 c2 l2 W hf0 hcf0 hp0 hcp0 wa1 wb1 wc1 hr2 hc2 hG).mono fun e W' ⟨he,bel⟩=>?_
  subst he
  exact ⟨_,rfl,_,_,_,[],_,[],hW',trodAll_mk1 (shut_bool Tryd.underlying4 _),(trodAll_cons_mk (Below.trod laidOut (by kernel_rfl) (of_decide_eq_true (by kernel_rfl)) k0 bel lt0) (trodAll_cons_mk (Below.trod laidOut (by kernel_rfl) (of_decide_eq_true (by kernel_rfl)) k1 bel lt1) (trodAll_cons_mk (Below.trod laidOut (by kernel_rfl) (of_decide_eq_true (by kernel_rfl)) k2 bel lt2) trodAll_mk0))),rfl,bel.frame _,fun h=>by cases h⟩
theorem over:Rows.heardWholesRow.holds Tryd.pinned (OpenSpec.ofChange Rows.heardWholesSpec) :=
  OpenClaim.holds_of_wide 6 Tryd.f6 rfl rfl rfl rfl rfl rfl rfl ⟨rfl,rfl,rfl,rfl,rfl⟩ rfl rfl rfl rfl rfl (by kernel_rfl) Tryd.func6 (by kernel_rfl)
    (of_decide_eq_true (by kernel_rfl)) (by unfold Func.isWrapper;first|(rw [if_pos (by decide +kernel)];kernel_rfl)|(rw [if_neg (by decide +kernel)];exact ⟨rfl,rfl⟩))
    (fun os started H enc _=>lifted os started H enc)
end Go.Proofs.YthnilelmhpmanaaDoor.heardWholes
namespace Go.Proofs.YthnilelmhpmanaaDoor
open Go
theorem heardWholes_holds:Rows.HeardWholesCardSaid :=
  Claim7.holds_tied_plain_at .later [] [.funcs] true (true, "33074864ba4e56991642c68d751f856a13e28f1efabd1dce43c9be97798eea9b") false heardWholes.over (fun _ h => by cases h) (by kernel_rfl) (fun _ h => by cases h) heardWholes_row_tie rfl ⟨rfl, rfl⟩ (by kernel_rfl) rfl
    (fun f fn hf hfn=>by
      obtain rfl : f = 6 := Option.some.inj ((show Tryd.prog.funcNamed "saron/saronlaw09.HeardWholes" = some 6 by kernel_rfl).symm.trans hf) |>.symm
      obtain rfl:fn=Tryd.f6:=(Option.some.inj (Tryd.func6.symm.trans hfn)).symm
      exact ⟨by kernel_rfl,fun j t ht=>by
        rw [Tryd.params6] at ht
        have ht2:t ∈ ([27,49,28]:List Nat):=List.mem_of_getElem? (by simpa using ht)
        simp only [List.mem_cons,List.not_mem_nil,or_false] at ht2
        rcases ht2 with rfl|rfl|rfl
        · exact (show Tryd.prog.wantsStandIn 27=false by kernel_rfl)
        · exact (show Tryd.prog.wantsStandIn 49=false by kernel_rfl)
        · exact (show Tryd.prog.wantsStandIn 28=false by kernel_rfl)⟩)
    (by kernel_rfl)
end Go.Proofs.YthnilelmhpmanaaDoor
