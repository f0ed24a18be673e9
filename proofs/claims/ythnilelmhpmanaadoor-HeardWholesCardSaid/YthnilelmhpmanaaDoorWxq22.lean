/- A part of the proof: contracts and laws. -/
import Derived.Test.YthnilelmhpmanaaDoorWxq20
import Derived.Test.YthnilelmhpmanaaDoorWxq21
section
namespace Go.Proofs.YthnilelmhpmanaaDoor.PHeardFits
open Go.RowKit Go.Proofs.YthnilelmhpmanaaDoorW.PrintWords Go.Proofs.YthnilelmhpmanaaDoorW.PrintLast Go.Proofs.YthnilelmhpmanaaDoorW.PrintMore
set_option linter.unusedVariables false
set_option linter.unusedSimpArgs false
theorem fit_pieces2 {w:World} {A:Option Addr} {n:Nat} {ps:List S62} (h:Kd.C k62 w A n ps):FitPieces ps:=by
  refine ⟨fit_pieces h,fun p hp=>?_⟩
  obtain ⟨i,hi,rfl⟩:=List.mem_iff_getElem.1 hp
  have h2:=Kd.C_len h
  obtain ⟨ad,c,-,-,hK,-⟩:=Kd.C_get h z62 (i:Int) (by omega) (by omega)
  rw [Int.toNat_natCast,List.getD_eq_getElem?_getD,List.getElem?_eq_getElem hi,Option.getD_some] at hK
  obtain ⟨A1,c1,-,l1,g1⟩:=k62_open hK
  exact fit_row g1
theorem wholes_any (g:Int) (Af:Option Addr) (cf:Nat) (fs:List S85) (Ap:Option Addr) (cp:Nat) (ps:List S62) (n0 n1 n2:Int) (At:Option Addr) (ct:Nat) (tones:List Int) (w:World) (hf:Kd.C k85 w Af fs.length fs) (hcf:fs.length≤cf) (hp:Kd.C k62 w Ap ps.length ps) (hcp:ps.length≤cp) (wa:(Lit.int .i64 n0).wf=true) (wb:(Lit.int .i64 n1).wf=true) (wc:(Lit.int .i64 n2).wf=true) (ht:Kd.C (Kd.int .i64) w At tones.length tones) (hct:tones.length≤ct) (hG:GlobIs w) :
    Calls Tryd.prog 6 #[.agg #[.int .i64 g,.slice Af fs.length cf,.slice Ap ps.length cp],.agg #[.int .i64 n0,.int .i64 n1,.int .i64 n2],.slice At tones.length ct] w fun e w'=>e=.returned (.bool true)∧Below w.heap.size w w':=by
  have hff:=fit_forms hf
  have hpl:=fit_pieces hp
  have hpp:=fit_pieces2 hp
  have htl:=fit_row ht
  obtain ⟨K1,h1⟩:=common_ev2 (g:=g) hff hpl n0 n1
  obtain ⟨K2,h2⟩:=rcommon_ev (g:=g) hff hpp n0 n1
  obtain ⟨K3,h3⟩:=whole_ev2 (g:=g) hff hpl tones n2
  obtain ⟨K4,h4⟩:=rwhole_ev (g:=g) hff hpp tones n2 htl
  obtain ⟨r,hr⟩:=knownP_ex g fs ps
  obtain ⟨K5,h5⟩:=known_ev hff hpl hr
  obtain ⟨K6,h6⟩:=rknown_ev hff hpp hr
  have hlen:(wholeP g fs ps tones n2).1.length≤9223372036854775807:=by
    unfold wholeP
    split
    · split
      · have:=idxL_len (wholeQ ps tones n2) ps.length 0
        show (idxL (wholeQ ps tones n2) ps.length 0).length≤_
        omega
      · simp
    · simp
  obtain ⟨K7,h7⟩:=requal_self (wholeP g fs ps tones n2).1 hlen
  obtain ⟨k,hk⟩:∃ k,k=K1+K2+K3+K4+K5+K6+K7:=⟨_,rfl⟩
  exact wholes_walk k g Af cf fs Ap cp ps n0 n1 n2 At ct tones w hf hcf hp hcp ht hct (commonP g fs ps n0 n1).1 (commonP g fs ps n0 n1).2 (wholeP g fs ps tones n2).1 (wholeP g fs ps tones n2).2 r.1 r.2 (h1 k (by omega)) (h2 k (by omega)) (h3 k (by omega)) (h4 k (by omega)) (h7 k (by omega)) (h5 k (by omega)) (h6 k (by omega)) hG
end Go.Proofs.YthnilelmhpmanaaDoor.PHeardFits
end
