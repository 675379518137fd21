/- TopCrash: what is opened behind a crash is the pool of the last commit. Any steps, phase and marks. -/
import Derived.Test.YtdahhoicackcaaaGreatZVne
import Derived.Test.YtdahhoicackcaaaGreatRows
import Derived.Test.YtdahhoicackcaaaGreatZUw
import Derived.Lib.SmallJoins
namespace Go.Proofs.YtdahhoicackcaaaGreat
open Go.Proofs.Tryz
set_option linter.unusedVariables false
set_option linter.unusedSectionVars false
set_option maxRecDepth 8000
set_option linter.unusedSimpArgs false
open Go.ChangeShapes Go.WideShapes Go.ChangeAt Go.RowKit Go.Joins
set_option maxRecDepth 100000 in
theorem topCrash_lifted(s:Os)(d:s.Started)(H:Type)(enc:TypeId×Value->H):
  ReturnsInHanded {} Tryz.checked s 4 .any (Rows.topCrashSpec.pre6 enc prog Tryz.f4 Rows.topCrashRow.domain false) (Rows.topCrashSpec.post enc prog Tryz.f4 false true false false):=by
 refine returnsInHanded_of_change (C:=Tryz.checked) A.own d (by kernel_rfl) func4
  (ChangeSpec.witness6 (enc:=enc) (C:=Tryz.checked) false ⟨#[],#[.slice none 0 0,.int .i64 0,.slice none 0 0],[]⟩ 8 (by kernel_rfl) (by kernel_rfl) (by kernel_rfl) (by kernel_rfl)) ?_
 intro W i f ds X k g y u _
 have b:∀(j:Nat) t v,Tryz.f4.params[j]? =some t->f[j]? =some v->Value.okWide prog W .any i t v:=g
 have o:=y
 obtain⟨p,q,r,N,rfl,K,J⟩:=y
 have z:DataW.TrodAll enc prog W 0 (λ_=>true) true Tryz.f4.params.toList f.toList ds p:=r
 rw[Tryz.params4]at z b
 obtain⟨E,D,B,d0,Z,Y,V,U,p2,rfl,rfl,rfl,Q,P,O⟩:=trodAll_three z
 obtain⟨rfl,rfl⟩:=trodVars_none N
 obtain⟨t,a,c,S,l,m⟩:=Jr (b 0 22 E rfl rfl) Q
 obtain⟨F,rfl,rfl,rfl,T⟩:=open_int Tryz.underlying3 (b 1 3 D rfl rfl) P
 obtain⟨keep,I,G,R,n⟩:=NK (b 2 23 B rfl rfl) O
 subst S R
 refine(V3 t a c (Hm W) l m F keep I G n |>.mono λ_ _ _ h=>h.1).run.mono λe W' ⟨L,M⟩=>?_
 subst L
 exact⟨_,rfl,Tg o (by kernel_rfl) rfl rfl rfl M⟩
theorem topCrash_holds:Rows.TopCrashSaid:=
 OpenClaim.holds_of_wide 4 Tryz.f4 rfl rfl rfl rfl rfl rfl rfl ⟨rfl,rfl,rfl,rfl,rfl⟩ rfl rfl rfl rfl rfl (by kernel_rfl) func4 (by kernel_rfl)
  (of_decide_eq_true (by kernel_rfl)) (by unfold Func.isWrapper;first|(rw[if_pos (by decide +kernel)];kernel_rfl)|(rw[if_neg (by decide +kernel)];exact⟨rfl,rfl⟩))
  (λc a H b _=>topCrash_lifted c a H b)
end Go.Proofs.YtdahhoicackcaaaGreat
