/- A part of the proof: contracts and laws. -/
import Derived.RangeFuncNested
import Derived.RangeFuncCalls
import Derived.Deep.RegionHeld3
section
namespace Go.Proofs.YthnilelmhpmanaaDoor.Rr
open Go Go.RowKit
set_option linter.unusedVariables false
theorem upon_round {P:Program} {o:Oper} {a:Act} {next:Act→World→Prop} {Q:Exit→Act→World→Prop} {r:Result Next} (l n:Nat) (h:o.upon P a next Q r):o.uponIn (Fence.wide.inRound l) n P a next Q r:=by
  cases r with
  | ok x w' =>
    cases x <;> simp only [Oper.upon,Oper.uponIn] at h ⊢ <;>
      first
        | exact h
        | exact ⟨fun hd=>by simp [Fence.wide] at hd,CallsIn.inRound l (callsIn_wide.2 h)⟩
        | exact ⟨fun hd=>by simp [Fence.wide] at hd,fun c cs _=>let ⟨v,w',r,s⟩:=h c cs;⟨v,w',r,stepsIn_wide.2 s⟩⟩
  | halt x w'=>cases x <;> simp only [Oper.upon,Oper.uponIn] at h ⊢ <;> exact h
theorem wpOps_round {P:Program} {ops:Array Oper} {Q:Exit→Act→World→Prop} (l n:Nat) (hnd:∀ (i:Nat) (o:Oper),ops[i]?=some o→∀ c,o.op≠Op.defer c) (hQ:¬ LetsOut Q):∀ (is:List Nat) (a:Act) (w:World),wpOps P ops Q is a w→wpOpsIn (Fence.wide.inRound l) n P ops Q is a w
  | [],a,w,h=>h
  | i :: rest,a,w,h=>by
    unfold wpOps at h
    unfold wpOpsIn
    cases ho:ops[i]? with
    | none =>
      simp only [ho] at h ⊢
      exact wpOps_round l n hnd hQ rest a w h
    | some o =>
      simp only [ho] at h ⊢
      by_cases hw:Region.wanted o (yielded ops a.tmps)=true
      · simp only [hw,if_true] at h ⊢
        rcases h with h|h
        · refine ⟨fun _ _=>trivial,?_⟩
          have h':=Oper.wp_mono (fun a w=>wpOps_round l n hnd hQ rest a w) h
          unfold Oper.wp at h'
          simp only [Fence.inRound_round]
          rw [Oper.semAt_eq _ _ _ (hnd i o ho)]
          exact upon_round l n h'
        · exact absurd h.2 hQ
      · simp only [hw] at h ⊢
        exact ⟨fun _ _=>trivial,wpOps_round l n hnd hQ rest _ w h⟩
/-- Is an operation no defer statement? -/
def noDefer:Op→Bool
  | .defer _=>false
  | _=>true
theorem noDefer_spec {ops:Array Oper} (h:ops.all (fun o=>noDefer o.op)=true) (i:Nat) (o:Oper) (ho:ops[i]?=some o) (c:Call):o.op≠Op.defer c:=by
  intro e
  obtain ⟨hi,rfl⟩:=Array.getElem?_eq_some_iff.1 ho
  have:=(Array.all_eq_true.1 h) i hi
  rw [e] at this
  simp [noDefer] at this
theorem region_round {P:Program} {ops:Array Oper} {Q:Exit→Act→World→Prop} {id:Nat} {a:Act} {w:World} (l n:Nat) (S:World→Prop) (hm:P.follows .mixedOrders=true) (hnd:ops.all (fun o=>noDefer o.op)=true) (hQ:¬ LetsOut Q) (hS:S w.drew)
    (h:S w.drew→wpAnyH P .any ops Q S ops.size (Array.replicate ops.size false) a w.drew):(Code.region id ops true).wpIn (Fence.wide.inRound l) n P Q a w :=
  wpIn_region_draw fun t=>by
    simp only [Region.schedule,hm,Bool.true_or,if_true]
    exact wpOps_round l n (noDefer_spec hnd) hQ _ _ _ (wpAny_sound ops.size t _ a _ (wpAny_of_held _ _ _ _ (h hS)))
end Go.Proofs.YthnilelmhpmanaaDoor.Rr
end
