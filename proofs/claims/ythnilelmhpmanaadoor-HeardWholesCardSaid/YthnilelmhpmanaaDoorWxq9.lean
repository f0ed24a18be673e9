/- A part of the proof: contracts and laws. -/
import Derived.ChangeKeysEq
import Derived.Test.YthnilelmhpmanaaDoorWxq3
section
namespace Go.Proofs.YthnilelmhpmanaaDoor.Hm
open Go Go.RowKit Go.Proofs.YthnilelmhpmanaaDoorW.PrintWords
set_option linter.unusedVariables false
set_option linter.unusedSimpArgs false
/-- An array of truth values. -/
def bvs (l:List Bool):Array Value:=(l.map Value.bool).toArray
theorem bvs_get (l:List Bool) (i:Nat):(bvs l)[i]?=(l[i]?).map Value.bool:=by simp [bvs]
/-- One of them. -/
def bat (l:List Bool) (j:Nat):Bool:=l.getD j false
section
variable {P:Program} {t e:TypeId} {n:Nat} {i:TypeInfo} (hu:P.underlying t=some (.array n e)) (hi:P.info? e=some i) (hp:P.plainKey e=true) (hc:P.cellsOf e=1) (hb:P.underlying e=some .bool)
include hi hp hc hb
omit hi hc in
theorem run_items (d:Nat) (w:World) (a b:List Bool) (hl:a.length=b.length):∀ (m s:Nat),s+m≤a.length→(Op.eqItems (d+1) e 1 (bvs a) (bvs b) (List.range' s m)).run P w=.ok ((a.drop s).take m == (b.drop s).take m) w
  | 0,s,h=>by simp [Op.eqItems]
  | m+1,s,h=>by
    have h1:s<a.length:=by omega
    have h2:s<b.length:=by omega
    have p1:(part e (bvs a) (s * 1)).run P w=.ok (.bool a[s]) w:=run_part_plain w hp (by rw [Nat.mul_one,bvs_get,List.getElem?_eq_getElem h1];rfl)
    have p2:(part e (bvs b) (s * 1)).run P w=.ok (.bool b[s]) w:=run_part_plain w hp (by rw [Nat.mul_one,bvs_get,List.getElem?_eq_getElem h2];rfl)
    have p3:(Op.equalIn (d+1) e (.bool a[s]) (.bool b[s])).run P w=.ok (a[s] == b[s]) w:=by simp [Op.equalIn,run_underlying hb]
    have ih:=run_items d w a b hl m (s+1) (by omega)
    rw [List.range'_succ,List.drop_eq_getElem_cons h1,List.drop_eq_getElem_cons h2,List.take_succ_cons,List.take_succ_cons]
    simp only [Op.eqItems,Sem.run_bind,p1,p2,p3,Result.andThen_ok]
    cases hq:(a[s] == b[s]) with
    | true =>
      simp only [Bool.not_true,Bool.false_eq_true,if_false,ih]
      simp only [List.cons_beq_cons,hq,Bool.true_and]
    | false=>simp [hq]
include hu
theorem run_eq_bools (w:World) (a b:List Bool) (ha:a.length=n) (hl:a.length=b.length):(Op.equal t (.agg (bvs a)) (.agg (bvs b))).run P w=.ok (a == b) w:=by
  show (Op.equalIn (9998+1+1) t (.agg (bvs a)) (.agg (bvs b))).run P w=_
  rw [run_equalIn_array w (9998+1) (bvs a) (bvs b) hu hi,hc,List.range_eq_range',run_items hp hb 9998 w a b hl n 0 (by omega)]
  rw [List.drop_zero,List.drop_zero,List.take_of_length_le (by omega),List.take_of_length_le (by omega)]
theorem run_eql_bools (w:World) (a b:List Bool) (ha:a.length=n) (hl:a.length=b.length):(binOp .eql t (.agg (bvs a)) (.agg (bvs b))).run P w=.ok (.bool (a == b)) w:=by
  simp only [binOp]
  simp [run_eq_bools hu hi hp hc hb w a b ha hl]
omit hb in
theorem run_index_bools (w:World) (a:List Bool) (ha:a.length=n) (j:Nat) (h:j<n):(Instr.index t (.agg (bvs a)) (.int .i64 j)).run P w=.ok (.bool (bat a j)) w:=by
  unfold bat
  have hin:0≤(j:Int)∧(j:Int)<(n:Int):=by omega
  have h1:j<a.length:=by omega
  have p1:(part e (bvs a) (j * 1)).run P w=.ok (.bool a[j]) w:=run_part_plain w hp (by rw [Nat.mul_one,bvs_get,List.getElem?_eq_getElem h1];rfl)
  simp only [Instr.index,asIntOf,Sem.run_bind,Sem.run_pure,Result.andThen_ok,run_underlying hu]
  rw [if_pos hin]
  simp only [Sem.run_bind,run_sizeOf w hi,hc,Result.andThen_ok,Int.toNat_natCast,p1]
  rw [List.getD_eq_getElem?_getD,List.getElem?_eq_getElem h1];rfl
end
/-- The numbers of those that are true. -/
def truesB:List Bool→Nat→List Int
  | [],_=>[]
  | b :: r,k=>(if b then [(k:Int)] else []) ++ truesB r (k+1)
theorem truesB_len:∀ (l:List Bool) (k:Nat),(truesB l k).length≤l.length
  | [],_=>by simp [truesB]
  | b :: r,k=>by
    have:=truesB_len r (k+1)
    cases b <;> simp [truesB] <;> omega
theorem truesB_snoc:∀ (l:List Bool) (b:Bool) (k:Nat),truesB (l ++ [b]) k=truesB l k ++ (if b then [((k+l.length:Nat):Int)] else [])
  | [],b,k=>by simp [truesB]
  | x :: r,b,k=>by
    simp only [List.cons_append,truesB,truesB_snoc r b (k+1),List.append_assoc,List.length_cons]
    rw [show k+1+r.length=k+(r.length+1) from by omega]
theorem truesB_take (l:List Bool) (j:Nat) (h:j<l.length):truesB (l.take (j+1)) 0=truesB (l.take j) 0 ++ (if bat l j then [(j:Int)] else []):=by
  rw [List.take_succ_eq_append_getElem h,truesB_snoc,List.length_take,Nat.min_eq_left (by omega),Nat.zero_add,bat,List.getD_eq_getElem?_getD,List.getElem?_eq_getElem h];rfl
theorem truesB_none:∀ (l:List Bool) (k:Nat),(l == List.replicate l.length false)=true→truesB l k=[]
  | [],_,_=>rfl
  | b :: r,k,h=>by
    simp only [List.length_cons,List.replicate_succ,List.cons_beq_cons,Bool.and_eq_true,beq_iff_eq] at h
    obtain ⟨rfl,h2⟩:=h
    simp [truesB,truesB_none r (k+1) (by simpa using h2)]
end Go.Proofs.YthnilelmhpmanaaDoor.Hm
end
