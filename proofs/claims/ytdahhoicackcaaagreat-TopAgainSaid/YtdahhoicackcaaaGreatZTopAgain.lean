/- TopAgain: what was lost may be done again. Any steps and marks. -/
import Derived.Test.YtdahhoicackcaaaGreatZVne
import Derived.Test.YtdahhoicackcaaaGreatRows
import Derived.Test.YtdahhoicackcaaaGreatZUw
import Derived.Lib.SmallJoins
namespace Go.Proofs.YtdahhoicackcaaaGreat
open Go.Proofs.Tryz
set_option linter.unusedVariables false
set_option linter.unusedSectionVars false
set_option maxRecDepth 8000
set_option linter.unusedSimpArgs false
open Go.ChangeShapes Go.WideShapes Go.ChangeAt Go.RowKit Go.Joins
set_option maxRecDepth 100000 in
theorem topAgain_lifted(s:Os)(b:s.Started)(H:Type)(enc:TypeId×Value->H):
  ReturnsInHanded {} Tryz.checked s 3 .any (Rows.topAgainSpec.pre6 enc prog Tryz.f3 Rows.topAgainRow.domain false) (Rows.topAgainSpec.post enc prog Tryz.f3 false true false false):=by
 refine returnsInHanded_of_change (C:=Tryz.checked) A.own b (by kernel_rfl) func3
  (ChangeSpec.witness6 (enc:=enc) (C:=Tryz.checked) false ⟨#[],#[.slice none 0 0,.slice none 0 0,.slice none 0 0],[]⟩ 8 (by kernel_rfl) (by kernel_rfl) (by kernel_rfl) (by kernel_rfl)) ?_
 intro W l c ds gs m d y u _
 have a:∀(j:Nat) t v,Tryz.f3.params[j]? =some t->c[j]? =some v->Value.okWide prog W .any l t v:=d
 have o:=y
 obtain⟨p,q,r,O,rfl,L,K⟩:=y
 have z:DataW.TrodAll enc prog W 0 (λ_=>true) true Tryz.f3.params.toList c.toList ds p:=r
 rw[Tryz.params3]at z a
 obtain⟨E,D,B,d0,d1,d2,p0,p1,p2,rfl,rfl,rfl,R,Q,P⟩:=trodAll_three z
 obtain⟨rfl,rfl⟩:=trodVars_none O
 obtain⟨G,Z,X,U,g,k⟩:=Jr (a 0 22 E rfl rfl) R
 obtain⟨F,Y,V,T,f,i⟩:=Jr (a 1 22 D rfl rfl) Q
 obtain⟨keep,J,I,S,n⟩:=NK (a 2 23 B rfl rfl) P
 subst U T S
 refine(Wg (Hm W) G Z X g k F Y V f i keep J I n |>.mono λ_ _ _ h=>h.1).run.mono λe W' ⟨M,N⟩=>?_
 subst M
 exact⟨_,rfl,Tg o (by kernel_rfl) rfl rfl rfl N⟩
theorem topAgain_holds:Rows.TopAgainSaid:=
 OpenClaim.holds_of_wide 3 Tryz.f3 rfl rfl rfl rfl rfl rfl rfl ⟨rfl,rfl,rfl,rfl,rfl⟩ rfl rfl rfl rfl rfl (by kernel_rfl) func3 (by kernel_rfl)
  (of_decide_eq_true (by kernel_rfl)) (by unfold Func.isWrapper;first|(rw[if_pos (by decide +kernel)];kernel_rfl)|(rw[if_neg (by decide +kernel)];exact⟨rfl,rfl⟩))
  (λc a H b _=>topAgain_lifted c a H b)
end Go.Proofs.YtdahhoicackcaaaGreat
