/- THE WALKING LAYER, one part more: a scope in which the run jumps back to a label. No statement of the seat is proved here. -/
import Derived.Test.YtdahhoicackcaaaGreatZHn
import Derived.Test.YtdahhoicackcaaaGreatZUl
import Derived.Test.YtdahhoicackcaaaGreatZShv
import Derived.ScopeJumps
namespace Go.Proofs.YtdahhoicackcaaaGreat
open Go.Proofs.Tryz
set_option linter.unusedVariables false
set_option linter.unusedSectionVars false
set_option maxRecDepth 8000
set_option maxHeartbeats 40000000
set_option linter.unusedSimpArgs false
open Go.RowKit
def onSt(q:Po):Except Int Sto->Except Int Po
 |.error e=>.error e
 |.ok t=>.ok ⟨t,q.gen,q.root,q.next,q.dead⟩
variable{M':Mem}{a:Sl}{e:Int}{r:Except Int Sto}
theorem StQ.po{b c d f:Sl}(h:StQ r M' a b c d e)(q:Po)(l:NI M' f.v q.dead):PoQ (onSt q r) M' ⟨a,b,c,d,f⟩ q.gen q.root q.next e:=by
 rcases h with⟨m,rfl⟩|⟨rfl,t,rfl,_,k,j,i,g⟩
 ·exact .inl ⟨m,rfl⟩
 exact .inr ⟨rfl,_,rfl,⟨k,j,i,g,l⟩,rfl,rfl,rfl⟩
theorem StQ.st{b c d:Sl}(h:StQ r M' a b c d e){q p:Po}(f:onSt q r=.ok p):p.dead=q.dead/\Aq p.st:=by
 rcases h with⟨i,rfl⟩|⟨rfl,t,rfl,g,_⟩
 ·cases f
 cases f;exact⟨rfl,g⟩
def wKn(k:Int):Except Int Po->Except Int Po
 |.error e=>.error e
 |.ok q=>onSt q (Gl q.st k)
def TW(p:Po)(v:Vo):Except Int (Sto×Int)->Except Int Po
 |.error e=>.error e
 |.ok (t,n)=>wKn v.root (Dq ⟨t,p.gen,p.root,p.next,p.dead⟩ ⟨v.id,n,v.frz,v.frm⟩)
def PN(p:Po)(v:Vo)(byF:Sto->Except Int (Sto×Int)):Except Int Sto->Except Int Po
 |.error e=>.error e
 |.ok t=>TW p v (byF t)
def Dn(p:Po)(v:Vo)(byF:Sto->Except Int (Sto×Int)):Except Int Po:=PN p v byF (E7 p.st v.root)
theorem TU(p:Po)(x:V5)(M:Mem)(h:PT5 M x p)(hd:p.dead.length<=1000000)(v:Vo)(hv:0<=v.id/\v.id<4294967296)(xk xi xo xr:Int)(xv:Value)(F:FuncId)(X:EN prog F=true)(b:Sto->Except Int (Sto×Int))(Y:∀(s:Sto)(sv:Value)(C:Mem),MLe M C->ST C sv s->SpecL prog F #[sv,.int .i64 v.root,.agg #[.int .u8 xk,.int .u32 xi,.int .u32 xo,.int .i64 xr,xv]] C [] λu G L2=>PtPost (b s) u G/\L2=[]):
  SpecL prog 60 #[.agg (AO x p.gen p.root p.next).toArray,.agg (CU v).toArray,.func (.func F) #[] #[],.agg #[.int .u8 xk,.int .u32 xi,.int .u32 xo,.int .i64 xr,xv]] M [] λu M' L'=>PoP (JU (Dn p v b)) u M'/\L'=[]:=by
 refine sB func60 ntmps60 ?_;intro W
 refine ga5 λb4 b5 b7 B z=>?_
 refine Ko rfl rfl rfl rfl rfl ?_
 refine gc (FE p.st v.root _ M h.st) ?_;rintro _ C O T
 obtain⟨qa,qb,qc,qd,er,rfl,e⟩:=T.q
 refine gj (λo=>?_) λo=>?_
 ·refine gh ?_
  obtain⟨r,c⟩|⟨rfl,_⟩:=e
  rotate_left
  ·exact absurd rfl o
  have a:Dn p v b=.error er:=by unfold Dn;rw[c];rfl
  refine AK (M':=C) (L':=[(z,cE [.int .i64 er] 39),(B,cE (AO Ef 0 0 0) 36)]) (λw h=>h.fewer (.cons_cons _ (.cons_cons _ (.cons _ (.cons _ (.cons _ .slnil)))))) ?_
  refine BI (by simp) (by kernel_rfl) (Ci (Dn p v b) Ef 0 0 0 er C (a▸.inl ⟨o,rfl⟩) (λq e=>(by rw[a]at e;cases e)) B z) ?_;rintro M9 _ E ⟨Q,g9,S,R,e9,D,rfl⟩
  simp only[List.cons_append,List.nil_append]
  refine gr ?_
  exact⟨D.p,rfl⟩
 refine gh ?_
 obtain⟨r,_⟩|⟨rfl,t,c,ac,g1,g2,g3,g4⟩:=e
 ·exact absurd (Classical.not_not.1 o) r
 have H:ST C (.agg #[qa.v,qb.v,qc.v,qd.v]) t:=⟨_,_,_,_,rfl,g1,g2,g3,g4⟩
 refine gh ?_
 refine lh (Bu rfl rfl rfl rfl rfl X (Y t _ C O H)) ?_;rintro _ G _ ⟨aa,_,rfl,⟨L,rfl⟩⟩
 simp only[List.nil_append]
 obtain⟨ra,rb,rc,rd,n,P,rfl,f⟩:=L.q
 refine gj (λl=>?_) λl=>?_
 ·refine gh ?_
  obtain⟨r,j⟩|⟨rfl,_⟩:=f
  rotate_left
  ·exact absurd rfl l
  have a:Dn p v b=.error P:=by unfold Dn;rw[c];unfold PN;dsimp only;rw[j];rfl
  refine AK (M':=G) (L':=[(z,cE [.int .i64 P] 39),(B,cE (AO Ef 0 0 0) 36)]) (λw h=>h.fewer (.cons_cons _ (.cons_cons _ (.cons _ (.cons _ (.cons _ .slnil)))))) ?_
  refine BI (by simp) (by kernel_rfl) (Ci (Dn p v b) Ef 0 0 0 P G (a▸.inl ⟨l,rfl⟩) (λq e=>(by rw[a]at e;cases e)) B z) ?_;rintro M9 _ E ⟨Q,g9,S,R,e9,D,rfl⟩
  simp only[List.cons_append,List.nil_append]
  refine gr ?_
  exact⟨D.p,rfl⟩
 refine gh ?_
 obtain⟨r,_⟩|⟨rfl,u,j,ab,k1,k2,k3,k4⟩:=f
 ·exact absurd (Classical.not_not.1 l) r
 have V:PT5 G ⟨ra,rb,rc,rd,x.d⟩ ⟨u,p.gen,p.root,p.next,p.dead⟩:=⟨k1,k2,k3,k4,h.d.mono (O.trans aa)⟩
 refine gc (H4 ⟨u,p.gen,p.root,p.next,p.dead⟩ ⟨ra,rb,rc,rd,x.d⟩ G V hd ⟨v.id,n,v.frz,v.frm⟩ hv) ?_;rintro _ M3 ad U
 obtain⟨y,g,r1,m,e3,rfl,J⟩:=U.q
 refine gj (λk=>?_) λk=>?_
 ·refine gh ?_
  obtain⟨r,i⟩|⟨rfl,_⟩:=J
  rotate_left
  ·exact absurd rfl k
  have a:Dn p v b=.error e3:=by unfold Dn;rw[c];unfold PN;dsimp only;rw[j];unfold TW;dsimp only;rw[i];rfl
  refine AK (M':=M3) (L':=[(z,cE [.int .i64 e3] 39),(B,cE (AO Ef 0 0 0) 36)]) (λw h=>h.fewer (.cons_cons _ (.cons_cons _ (.cons _ (.cons _ (.cons _ .slnil)))))) ?_
  refine BI (by simp) (by kernel_rfl) (Ci (Dn p v b) Ef 0 0 0 e3 M3 (a▸.inl ⟨k,rfl⟩) (λq e=>(by rw[a]at e;cases e)) B z) ?_;rintro M9 _ E ⟨Q,g9,S,R,e9,D,rfl⟩
  simp only[List.cons_append,List.nil_append]
  refine gr ?_
  exact⟨D.p,rfl⟩
 refine gh ?_
 obtain⟨r,_⟩|⟨rfl,q,i,N,rfl,rfl,rfl⟩:=J
 ·exact absurd (Classical.not_not.1 k) r
 refine gc (HB q.st v.root _ M3 N.st) ?_;rintro _ M4 Z K
 obtain⟨sa,sb,sc,sd,e4,rfl,I⟩:=K.q
 refine gh ?_
 have a:Dn p v b=onSt q (Gl q.st v.root):=by unfold Dn;rw[c];unfold PN;dsimp only;rw[j];unfold TW;dsimp only;rw[i];rfl
 refine AK (M':=M4) (L':=[(z,cE [.int .i64 e4] 39),(B,cE (AO ⟨sa,sb,sc,sd,y.d⟩ q.gen q.root q.next) 36)]) (λw h=>h.fewer (.cons_cons _ (.cons_cons _ (.cons _ (.cons _ (.cons _ .slnil)))))) ?_
 refine BI (by simp) (by kernel_rfl) (Ci (Dn p v b) ⟨sa,sb,sc,sd,y.d⟩ q.gen q.root q.next e4 M4 (a▸I.po q (N.d.mono Z)) (λq2 f=>(by have e1:=I.st (a▸f);have P:=(Kd i).1;exact⟨by rw[e1.1,P];exact hd,e1.2⟩)) B z) ?_;rintro M9 _ E ⟨Q,g9,S,R,e9,D,rfl⟩
 simp only[List.cons_append,List.nil_append]
 refine gr ?_
 exact⟨D.p,rfl⟩
theorem wKm(p:Po)(x:V5)(M:Mem)(h:PT5 M x p)(hd:p.dead.length<=1000000)(v:Vo)(hv:0<=v.id/\v.id<4294967296)(k:Ky)(G:FuncId)(Y:EN prog G=true)(b:Sto->Except Int (Sto×Int))(Z:∀(s:Sto)(sv:Value)(D:Mem),MLe M D->ST D sv s->SpecL prog G #[sv,.int .i64 v.root,.agg (AG k).toArray] D [] λu H L2=>PtPost (b s) u H/\L2=[]):
  SpecL prog 66 #[.agg (AO x p.gen p.root p.next).toArray,.agg (CU v).toArray,.func (.func G) #[] #[],.agg (AG k).toArray] M [] λu M' L'=>PoP (JU (Dn p v b)) u M'/\L'=[]:=by
 refine sB func66 ntmps66 ?_;intro W
 refine ga5 λb4 b5 b7 C B=>?_
 refine Ko rfl rfl rfl rfl rfl ?_
 refine gc (FE p.st v.root _ M h.st) ?_;rintro _ D P U
 obtain⟨qa,qb,qc,qd,er,rfl,e⟩:=U.q
 refine gj (λr=>?_) λr=>?_
 ·refine gh ?_
  obtain⟨z,c⟩|⟨rfl,_⟩:=e
  rotate_left
  ·exact absurd rfl r
  have a:Dn p v b=.error er:=by unfold Dn;rw[c];rfl
  refine AK (M':=D) (L':=[(B,cE [.int .i64 er] 39),(C,cE (AO Ef 0 0 0) 36)]) (λw h=>h.fewer (.cons_cons _ (.cons_cons _ (.cons _ (.cons _ (.cons _ .slnil)))))) ?_
  refine BI (by simp) (by kernel_rfl) (Ci (Dn p v b) Ef 0 0 0 er D (a▸.inl ⟨r,rfl⟩) (λq e=>(by rw[a]at e;cases e)) C B) ?_;rintro M9 _ F ⟨R,g9,T,S,e9,E,rfl⟩
  simp only[List.cons_append,List.nil_append]
  refine gr ?_
  exact⟨E.p,rfl⟩
 refine gh ?_
 obtain⟨z,_⟩|⟨rfl,t,c,ad,g1,g2,g3,g4⟩:=e
 ·exact absurd (Classical.not_not.1 r) z
 have I:ST D (.agg #[qa.v,qb.v,qc.v,qd.v]) t:=⟨_,_,_,_,rfl,g1,g2,g3,g4⟩
 refine gh ?_
 refine lh (Bu rfl rfl rfl rfl rfl Y (Z t _ D P I)) ?_;rintro _ H _ ⟨ab,_,rfl,⟨N,rfl⟩⟩
 simp only[List.nil_append]
 obtain⟨ra,rb,rc,rd,n,Q,rfl,f⟩:=N.q
 refine gj (λo=>?_) λo=>?_
 ·refine gh ?_
  obtain⟨z,j⟩|⟨rfl,_⟩:=f
  rotate_left
  ·exact absurd rfl o
  have a:Dn p v b=.error Q:=by unfold Dn;rw[c];unfold PN;dsimp only;rw[j];rfl
  refine AK (M':=H) (L':=[(B,cE [.int .i64 Q] 39),(C,cE (AO Ef 0 0 0) 36)]) (λw h=>h.fewer (.cons_cons _ (.cons_cons _ (.cons _ (.cons _ (.cons _ .slnil)))))) ?_
  refine BI (by simp) (by kernel_rfl) (Ci (Dn p v b) Ef 0 0 0 Q H (a▸.inl ⟨o,rfl⟩) (λq e=>(by rw[a]at e;cases e)) C B) ?_;rintro M9 _ F ⟨R,g9,T,S,e9,E,rfl⟩
  simp only[List.cons_append,List.nil_append]
  refine gr ?_
  exact⟨E.p,rfl⟩
 refine gh ?_
 obtain⟨z,_⟩|⟨rfl,u,j,ac,k1,k2,k3,k4⟩:=f
 ·exact absurd (Classical.not_not.1 o) z
 have X:PT5 H ⟨ra,rb,rc,rd,x.d⟩ ⟨u,p.gen,p.root,p.next,p.dead⟩:=⟨k1,k2,k3,k4,h.d.mono (P.trans ab)⟩
 refine gc (H4 ⟨u,p.gen,p.root,p.next,p.dead⟩ ⟨ra,rb,rc,rd,x.d⟩ H X hd ⟨v.id,n,v.frz,v.frm⟩ hv) ?_;rintro _ M3 ae V
 obtain⟨y,g,r1,m,e3,rfl,K⟩:=V.q
 refine gj (λl=>?_) λl=>?_
 ·refine gh ?_
  obtain⟨z,i⟩|⟨rfl,_⟩:=K
  rotate_left
  ·exact absurd rfl l
  have a:Dn p v b=.error e3:=by unfold Dn;rw[c];unfold PN;dsimp only;rw[j];unfold TW;dsimp only;rw[i];rfl
  refine AK (M':=M3) (L':=[(B,cE [.int .i64 e3] 39),(C,cE (AO Ef 0 0 0) 36)]) (λw h=>h.fewer (.cons_cons _ (.cons_cons _ (.cons _ (.cons _ (.cons _ .slnil)))))) ?_
  refine BI (by simp) (by kernel_rfl) (Ci (Dn p v b) Ef 0 0 0 e3 M3 (a▸.inl ⟨l,rfl⟩) (λq e=>(by rw[a]at e;cases e)) C B) ?_;rintro M9 _ F ⟨R,g9,T,S,e9,E,rfl⟩
  simp only[List.cons_append,List.nil_append]
  refine gr ?_
  exact⟨E.p,rfl⟩
 refine gh ?_
 obtain⟨z,_⟩|⟨rfl,q,i,O,rfl,rfl,rfl⟩:=K
 ·exact absurd (Classical.not_not.1 l) z
 refine gc (HB q.st v.root _ M3 O.st) ?_;rintro _ M4 aa L
 obtain⟨sa,sb,sc,sd,e4,rfl,J⟩:=L.q
 refine gh ?_
 have a:Dn p v b=onSt q (Gl q.st v.root):=by unfold Dn;rw[c];unfold PN;dsimp only;rw[j];unfold TW;dsimp only;rw[i];rfl
 refine AK (M':=M4) (L':=[(B,cE [.int .i64 e4] 39),(C,cE (AO ⟨sa,sb,sc,sd,y.d⟩ q.gen q.root q.next) 36)]) (λw h=>h.fewer (.cons_cons _ (.cons_cons _ (.cons _ (.cons _ (.cons _ .slnil)))))) ?_
 refine BI (by simp) (by kernel_rfl) (Ci (Dn p v b) ⟨sa,sb,sc,sd,y.d⟩ q.gen q.root q.next e4 M4 (a▸J.po q (O.d.mono aa)) (λq2 f=>(by have e1:=J.st (a▸f);have Q:=(Kd i).1;exact⟨by rw[e1.1,Q];exact hd,e1.2⟩)) C B) ?_;rintro M9 _ F ⟨R,g9,T,S,e9,E,rfl⟩
 simp only[List.cons_append,List.nil_append]
 refine gr ?_
 exact⟨E.p,rfl⟩
theorem wFt:∀{vs:List Vo}{q:Int}{v:Vo},Jj vs q=some v->v.id=q:=λ{vs q v} h=>by
 unfold Jj at h
 have:=List.find?_some h
 exact of_decide_eq_true this
theorem Gr{p:Po}{q:Int}(h:volE p q=0):(volV p q).id=q:=by
 unfold volE volV at *
 split at h
 ·cases h
 rename_i b r n c
 cases a:Jj b q with
 |none=>rw[a]at h;cases h
 |some v=>exact wFt a
theorem Jt{p:Po}{q:Int}(h:opE p q=0):volE p q=0:=by
 unfold opE at h
 split at h
 ·cases h
 exact h
def E4(p:Po)(q:Int)(x:It):Except Int Po:=if opE p q=0 then (if BY x=0 then (if x.ref≠0/\daE p x.ref true≠0 then .error 6 else JU (Dn p (volV p q) λs=>Fw s (volV p q).root x))else .error (BY x))else .error (opE p q)
def JZ(p:Po)(q:Int)(k:Ky):Except Int Po:=if opE p q=0 then JU (Dn p (volV p q) λs=>GO s (volV p q).root k)else .error (opE p q)
theorem PU(p:Po)(x:V5)(M:Mem)(h:PT5 M x p)(n:p.dead.length<=1000000)(q:Int)(E:0<=q/\q<4294967296)(a:It)(D:Value)(l:BS M D a.val)(hk:BP a.key):
  SpecL prog 26 #[.agg (AO x p.gen p.root p.next).toArray,.int .u32 q,.agg #[.int .u8 a.key.kind,.int .u32 a.key.id,.int .u32 a.key.off,.int .i64 a.ref,D]] M [] λu M' J=>PoP (E4 p q a) u M'/\J=[]:=by
 obtain⟨L,K,rfl,G,F⟩:=id l
 refine sB func26 ntmps26 ?_;intro W
 refine Rl λQ P O=>?_
 refine gc (MZ p x M h n q) ?_;rintro _ o c rfl
 refine gA λN=>?_
 refine gj (λb=>?_) λb=>?_
 ·refine gr ?_
  exact⟨by unfold E4;rw[if_neg b];exact⟨b,rfl⟩,rfl⟩
 refine gQ (CR a _ o (l.mono c)) ?_
 refine gj (λd=>?_) λd=>?_
 ·refine gr ?_
  exact⟨by unfold E4;rw[if_pos (Classical.not_not.1 b),if_neg d];exact⟨d,rfl⟩,rfl⟩
 refine gj (λk=>?_) λk=>?_
 ·refine gQ ((Jk p x o (h.mono c) n a.ref true).mono λ_ _ _ h=>h.1) ?_
  refine gj (λj=>?_) λj=>?_
  ·refine gr ?_
   exact⟨by unfold E4;rw[if_pos (Classical.not_not.1 b),if_pos (Classical.not_not.1 d),if_pos ⟨k,j⟩];exact⟨by decide,rfl⟩,rfl⟩
  refine gh ?_
  have f:0<=(volV p q).id/\(volV p q).id<4294967296:=by rw[Gr (Jt (Classical.not_not.1 b))];exact E
  refine gc (TU p x o (h.mono c) n (volV p q) f a.key.kind a.key.id a.key.off a.ref _ 61 (by kernel_rfl) (λs=>Fw s (volV p q).root a) (λs r C i t=>He s r _ (volV p q).root a C t ((l.mono c).mono i) hk)) ?_;rintro _ I B e
  obtain⟨y,g,r1,m,H,rfl,z⟩:=e.q
  refine gr ?_
  exact⟨by unfold E4;rw[if_pos (Classical.not_not.1 b),if_pos (Classical.not_not.1 d),if_neg λh=>j h.2];exact e,rfl⟩
 refine gh ?_
 have f:0<=(volV p q).id/\(volV p q).id<4294967296:=by rw[Gr (Jt (Classical.not_not.1 b))];exact E
 refine gc (TU p x o (h.mono c) n (volV p q) f a.key.kind a.key.id a.key.off a.ref _ 61 (by kernel_rfl) (λs=>Fw s (volV p q).root a) (λs r C i t=>He s r _ (volV p q).root a C t ((l.mono c).mono i) hk)) ?_;rintro _ I B e
 obtain⟨y,g,r1,m,H,rfl,z⟩:=e.q
 refine gr ?_
 exact⟨by unfold E4;rw[if_pos (Classical.not_not.1 b),if_pos (Classical.not_not.1 d),if_neg λh=>k h.1];exact e,rfl⟩
theorem XC(p:Po)(x:V5)(M:Mem)(h:PT5 M x p)(e:p.dead.length<=1000000)(q:Int)(l:0<=q/\q<4294967296)(k:Ky):
  SpecL prog 29 #[.agg (AO x p.gen p.root p.next).toArray,.int .u32 q,.agg (AG k).toArray] M [] λu M' z=>PoP (JZ p q k) u M'/\z=[]:=by
 refine sB func29 ntmps29 ?_;intro W
 refine Rl λF E D=>?_
 refine gc (MZ p x M h e q) ?_;rintro _ t d rfl
 refine gA λC=>?_
 refine gj (λa=>?_) λa=>?_
 ·refine gr ?_
  exact⟨by unfold JZ;rw[if_neg a];exact⟨a,rfl⟩,rfl⟩
 refine gh ?_
 have c:0<=(volV p q).id/\(volV p q).id<4294967296:=by rw[Gr (Jt (Classical.not_not.1 a))];exact l
 refine gc (wKm p x t (h.mono d) e (volV p q) c k 67 (by kernel_rfl) (λs=>GO s (volV p q).root k) (λs f r o i=>QA s f (volV p q).root k r i)) ?_;rintro _ G n b
 obtain⟨y,g,r1,m,B,rfl,j⟩:=b.q
 refine gr ?_
 exact⟨by unfold JZ;rw[if_pos (Classical.not_not.1 a)];exact b,rfl⟩
end Go.Proofs.YtdahhoicackcaaaGreat
namespace Go.Proofs.YtdahhoicackcaaaGreat
open Go.Proofs.Tryz
set_option linter.unusedVariables false
set_option maxRecDepth 8000
set_option maxHeartbeats 40000000
set_option linter.unusedSimpArgs false
open Go.RowKit
def Fz(p:Po)(q:Int):Except Int Po:=if volE p q=0 then .ok p else .error (volE p q)
variable{M:Mem}
theorem wCt{p:Po}{x:V5}(h:PT5 M x p)(q:Int):PoQ (Fz p q) M x p.gen p.root p.next (volE p q):=by
 unfold Fz
 by_cases a:volE p q=0
 ·rw [if_pos a,a];exact .inr ⟨rfl,p,rfl,h,rfl,rfl,rfl⟩
 rw[if_neg a];exact .inl ⟨a,rfl⟩
def Mu:Except Int Po->Except Int Po
 |.error e=>.error e
 |.ok q=>.ok ⟨q.st,q.gen,q.root,q.next+1,q.dead⟩
variable{g r1:Int}{r:Except Int Po}{y:V5}
theorem PoQ.nxt{n e:Int}(h:PoQ r M y g r1 n e):PoQ (Mu r) M y g r1 (n+1) e:=by
 rcases h with⟨c,rfl⟩|⟨rfl,q,rfl,a,rfl,rfl,rfl⟩
 ·exact .inl ⟨c,rfl⟩
 exact .inr ⟨rfl,_,rfl,⟨a.b,a.w,a.n,a.l,a.d⟩,rfl,rfl,rfl⟩
theorem PoQ.dead{p:Po}{k:Nat}(h:∀q,r=.ok q->q.dead=p.dead)(b:p.dead.length<=k):∀q,r=.ok q->q.dead.length<=k:=λq a=>by rw[h q a];exact b
variable{i:Int}
theorem Qo{p q:Po}(h:Fz p i=.ok q):q=p:=by
 unfold Fz at h
 split at h
 ·cases h;rfl
 cases h
variable{k:Int}
theorem Xc{p q:Po}(a:∀q,r=.ok q->q.dead=p.dead)(h:EP r k=.ok q):q.dead=p.dead:=by
 unfold EP at h
 split at h
 ·cases h
 split at h
 ·cases h
 cases h;have b:=a _ rfl;exact b
theorem wLm{p q:Po}{v:Vo}(a:∀q,r=.ok q->q.dead=p.dead)(h:Jb r v=.ok q):q.dead=p.dead/\Aq q.st:=by
 unfold Jb at h
 split at h
 ·cases h
 obtain⟨c,b⟩:=Kd h;exact⟨c.trans (a _ rfl),b⟩
theorem wLf{p q:Po}(a:∀q,r=.ok q->q.dead=p.dead)(h:Mu r=.ok q):q.dead=p.dead:=by
 unfold Mu at h
 split at h
 ·cases h
 cases h;have b:=a _ rfl;exact b
def wLg(p:Po):Nat:=match cens p.st p.root p.next p.dead with|none=>0|some (vs,_,_)=>vs.length
theorem Zt{p:Po}{q:Int}(h:volE p q=0):Ax p=0:=by
 unfold volE at h
 unfold Ax
 split at h
 ·cases h
 rename_i a;rw[a]
variable{s:Sl}
theorem vl_nv{p:Po}(h:∀vs refs nodes,cens p.st p.root p.next p.dead=some (vs,refs,nodes)->VS M s vs)(b:Ax p=0):s.n=wLg p:=by
 obtain⟨⟨vs,refs,nodes⟩,a⟩:=poChk_is.1 b
 unfold wLg
 rw[a]
 exact(h vs refs nodes a).1
def Nr(p:Po)(q:Int)(frz:Bool):Except Int Po:=if volE p q=0/\(16<=wLg p\/p.next=4294967295)then .error 9 else
 JU (Jb (Mu (EP (Fz p q) (volV p q).root)) ⟨p.next,(volV p q).root,frz,q⟩)
theorem PoQ.nxt2{n n' e:Int}(h:PoQ r M y g r1 n e)(a:e=0->n'=n+1):PoQ (Mu r) M y g r1 n' e:=by
 have b:=h.nxt
 rcases h with⟨c,rfl⟩|⟨rfl,_⟩
 ·exact .inl ⟨c,rfl⟩
 rw[a rfl];exact b
theorem gho_e{e a:Int}{b:V5}{n:Int}{M':Mem}(h:PoQ r M y g r1 n e)(f:PoQ (EP r k) M' b g r1 n a)(i:a=0):e=0:=by
 rcases h with⟨j,rfl⟩|⟨rfl,_⟩
 ·rcases f with⟨d,_⟩|⟨_,q,c,_⟩
  ·exact absurd i d
  cases c
 rfl
theorem wFs{p:Po}{q:Int}(c:0<=q/\q<4294967296):0<=(volV p q).id/\(volV p q).id<4294967296:=by
 by_cases h:volE p q=0
 ·rw [Gr h];exact c
 have:volV p q=⟨0,0,false,0⟩:=by
  unfold volE at h;unfold volV
  split at h
  ·rfl
  rename_i a r n d
  cases b:Jj a q with
  |none=>rfl
  |some v=>rw[b]at h;exact absurd rfl h
 rw[this];exact⟨by decide,by decide⟩
def PM(k:Int):Except Int Po->Except Int Po
 |.error e=>.error e
 |.ok q=>onSt q (Gl q.st k)
def VN(p:Po)(q:Int)(frz:Bool):Except Int Po:=JU (PM (volV p q).root (Jb (EP (Fz p q) (volV p q).root) ⟨(volV p q).id,(volV p q).root,frz,(volV p q).frm⟩))
theorem XP(p:Po)(x:V5)(M:Mem)(h:PT5 M x p)(D:p.dead.length<=1000000)(hn:0<=p.next/\p.next<4294967296)(q:Int)(frz:Bool):
  SpecL prog 30 #[.agg (AO x p.gen p.root p.next).toArray,.int .u32 q,.bool frz] M [] λu M' L'=>PoP2 .u32 (Ex (Nr p q frz) p.next) u M'/\L'=[]:=by
 refine sB func30 ntmps30 ?_;intro W
 refine Ao (Ah ?_)
 refine lh (Bf (cs:=[_,_,_,_,_,_,_,_]) rfl rfl rfl rfl) ?_;rintro _ _ _ ⟨k,rfl,rfl,rfl⟩
 refine lh (AM rfl rfl) ?_;rintro _ _ _ ⟨l,rfl,rfl,rfl⟩
 iterate 2 refine jp rfl ?_
 refine Am (jT (Ao (Ah ?_)))
 refine lq (Gz rfl rfl rfl rfl rfl) ?_
 refine lq (Bk (cs:=[_,_,_,_,_,_,_,_,_]) rfl rfl rfl (by rfl)) ?_
 refine lh (Bf (cs:=[_,_,_,_,_,_,_,_,_]) rfl rfl rfl rfl) ?_;rintro _ _ _ ⟨a,rfl,rfl,rfl⟩
 refine jp rfl ?_
 refine Am (jT (Ao ?_))
 refine BU (M':=M) (L':=[(a,cE (Jg x p.gen p.root p.next 0) 127),(l,cE (AO Ef 0 0 0) 36),(k,cE (AO x p.gen p.root p.next) 36)]) (λ_ h=>h) ?_
 refine gC (Pj p x M h D q a 0) ?_;rintro _ Z _ i ⟨rfl,rfl⟩
 simp only[List.cons_append,List.nil_append]
 refine lh (AM rfl rfl) ?_;rintro _ _ _ ⟨d,rfl,rfl,rfl⟩
 refine Dz rfl (Ae rfl rfl rfl rfl rfl rfl rfl rfl) ?_;rintro _ _ _ ⟨rfl,rfl⟩
 refine Am (jT ?_)
 refine Du (α:=Mem) (λ_=>[(1,.int .u32 q),(2,.bool frz),(3,pB k),(6,pB l),(9,pB a),(10,pB d)]) (λz=>z) (λ_=>[(d,cE (CU (volV p q)) 82),(a,cE (Jg x p.gen p.root p.next (volE p q)) 127),(l,cE (AO Ef 0 0 0) 36),(k,cE (AO x p.gen p.root p.next) 36)]) (λz=>MLe Z z/\¬(volE p q=0/\(16<=wLg p\/p.next=4294967295))) ?_ ?_
 ·rintro E ⟨b,I⟩
  try dsimp only at b⊢
  refine Ao ?_
  refine BU (M':=E) (L':=[(d,cE (CU (volV p q)) 82),(a,cE (Jg x p.gen p.root p.next (volE p q)) 127),(l,cE (AO Ef 0 0 0) 36),(k,cE (AO x p.gen p.root p.next) 36)]) (λ_ h=>h) ?_
  refine gC (Pi (Fz p q) x p.gen p.root p.next (volE p q) E (wCt (h.mono (i.trans b)) q) (PoQ.dead (p:=p) (λ_ h=>by rw[Qo h]) D) (volV p q) a) ?_;rintro _ Q _ ae ⟨H,P,s,aa,rfl⟩
  simp only[List.cons_append,List.nil_append]
  refine gh ?_
  refine lq (qP rfl rfl) ?_
  refine lq (BZ rfl rfl rfl) ?_
  refine lq (Ak rfl rfl rfl rfl rfl) ?_
  refine lq (Ak rfl rfl rfl rfl rfl) ?_
  refine Dz rfl (Ae rfl rfl rfl rfl rfl rfl rfl rfl) ?_;rintro _ _ _ ⟨rfl,rfl⟩
  refine Am (jT (Ao ?_))
  have r:PoQ (Mu (EP (Fz p q) (volV p q).root)) Q H p.gen p.root (IntKind.u32.wrap (p.next+1)) P:=s.nxt2 λh0=>(by have h1:=gho_e (wCt (h.mono (i.trans b)) q) s h0;rw[IntKind.wrap_u32];have:¬p.next=4294967295:=λh2=>I ⟨h1,.inr h2⟩;omega)
  refine BU (M':=Q) (L':=[(a,cE (Jg H p.gen p.root (IntKind.u32.wrap (p.next+1)) P) 127),(d,cE (CU (volV p q)) 82),(l,cE (AO Ef 0 0 0) 36),(k,cE (AO x p.gen p.root p.next) 36)]) (λ_ h=>h) ?_
  refine gC (Qn (Mu (EP (Fz p q) (volV p q).root)) H p.gen p.root (IntKind.u32.wrap (p.next+1)) P Q r (PoQ.dead (p:=p) (λ_ h=>wLf (λ_ h=>Xc (p:=p) (λ_ h=>by rw[Qo h]) h) h) D) ⟨p.next,(volV p q).root,frz,q⟩ hn a) ?_;rintro _ Y _ ad ⟨R,V,T,S,X,K,rfl⟩
  simp only[List.cons_append,List.nil_append]
  refine Am (jT (Ao (Ao ?_)))
  refine BU (M':=Y) (L':=[(a,cE (Jg R V T S X) 127),(d,cE (CU (volV p q)) 82),(l,cE (AO Ef 0 0 0) 36),(k,cE (AO x p.gen p.root p.next) 36)]) (λ_ h=>h) ?_
  refine gC (Qp _ R V T S X Y K (λ_ h=>(wLm (p:=p) (λ_ h=>wLf (λ_ h=>Xc (p:=p) (λ_ h=>by rw[Qo h]) h) h) h).imp (λe=>by rw[e];exact D) id) a) ?_;rintro _ M5 _ ac ⟨L,rfl⟩
  simp only[List.cons_append,List.nil_append]
  obtain⟨y,g,r1,m,e3,rfl,o⟩:=L.q
  refine gj (λf=>?_) λf=>?_
  ·refine gr ?_
   obtain⟨U,G⟩|⟨rfl,_⟩:=o
   rotate_left
   ·exact absurd rfl f
   exact⟨by rw[show Nr p q frz=_ from (if_neg I).trans G];exact⟨f,rfl⟩,rfl⟩
  refine gh ?_
  refine Hr [3] [1,2,3,4,5] [0,1,2,103,4,5] M5 (_) ([(k,cE (AO x p.gen p.root p.next) 36)]) ?_
  refine gr ?_
  obtain⟨U,G⟩|⟨rfl,q5,G,N,rfl,rfl,rfl⟩:=o
  ·exact absurd (Classical.not_not.1 f) U
  exact⟨by rw[show Nr p q frz=_ from (if_neg I).trans G];exact⟨y,rfl,N⟩,rfl⟩
 refine gc (Em p x Z (h.mono i) D) ?_;rintro _ E b ⟨sv,rfl,J⟩
 refine gg ?_
 have B:volE p q=0->Ax p=0:=Zt
 have C:Ax p=0->sv.n=wLg p:=vl_nv J
 refine gj (λc=>?_) λc=>?_
 ·refine gt ?_
  refine gj (λO=>?_) λO=>?_
  ·refine gr ?_
   exact⟨by rw[show Nr p q frz=.error 9 from if_pos ⟨c,.inl (by rw[<-C (B c)];omega)⟩];exact⟨by decide,rfl⟩,rfl⟩
  refine gj (λj=>?_) λj=>?_
  ·refine gr ?_
   exact⟨by rw[show Nr p q frz=.error 9 from if_pos ⟨c,.inr j⟩];exact⟨by decide,rfl⟩,rfl⟩
  refine gh ?_
  have ab:=C (B c)
  exact AS E (Keep.cons (t:=1) rfl (Keep.cons (t:=2) rfl (Keep.cons (t:=3) rfl (Keep.cons (t:=6) rfl (Keep.cons (t:=9) rfl (Keep.cons (t:=10) rfl Keep.nil)))))) ⟨b,by rintro⟨_,F|F⟩;omega;exact j F⟩ (λw h=>h)
 refine gh ?_
 exact AS E (Keep.cons (t:=1) rfl (Keep.cons (t:=2) rfl (Keep.cons (t:=3) rfl (Keep.cons (t:=6) rfl (Keep.cons (t:=9) rfl (Keep.cons (t:=10) rfl Keep.nil)))))) ⟨b,λF=>c F.1⟩ (λw h=>h)
theorem TE(p:Po)(x:V5)(M:Mem)(h:PT5 M x p)(F:p.dead.length<=1000000)(q:Int)(hq:0<=q/\q<4294967296)(frz:Bool):
  SpecL prog 31 #[.agg (AO x p.gen p.root p.next).toArray,.int .u32 q,.bool frz] M [] λu M' L'=>PoP (VN p q frz) u M'/\L'=[]:=by
 refine sB func31 ntmps31 ?_;intro W
 refine Ao (Ah ?_)
 refine lh (Bf (cs:=[_,_,_,_,_,_,_,_]) rfl rfl rfl rfl) ?_;rintro _ _ _ ⟨k,rfl,rfl,rfl⟩
 refine lh (AM rfl rfl) ?_;rintro _ _ _ ⟨i,rfl,rfl,rfl⟩
 refine jp rfl ?_
 refine Am (jT (Ao (Ah ?_)))
 refine lq (Gz rfl rfl rfl rfl rfl) ?_
 refine lq (Bk (cs:=[_,_,_,_,_,_,_,_,_]) rfl rfl rfl (by rfl)) ?_
 refine lh (Bf (cs:=[_,_,_,_,_,_,_,_,_]) rfl rfl rfl rfl) ?_;rintro _ _ _ ⟨a,rfl,rfl,rfl⟩
 refine jp rfl ?_
 refine Am (jT (Ao ?_))
 refine BU (M':=M) (L':=[(a,cE (Jg x p.gen p.root p.next 0) 127),(i,cE (AO Ef 0 0 0) 36),(k,cE (AO x p.gen p.root p.next) 36)]) (λ_ h=>h) ?_
 refine gC (Pj p x M h F q a 0) ?_;rintro _ M1 _ O ⟨rfl,rfl⟩
 simp only[List.cons_append,List.nil_append]
 refine lh (AM rfl rfl) ?_;rintro _ _ _ ⟨j,rfl,rfl,rfl⟩
 refine Dz rfl (Ae rfl rfl rfl rfl rfl rfl rfl rfl) ?_;rintro _ _ _ ⟨rfl,rfl⟩
 refine Am (jT (Ao ?_))
 refine BU (M':=M1) (L':=[(j,cE (CU (volV p q)) 82),(a,cE (Jg x p.gen p.root p.next (volE p q)) 127),(i,cE (AO Ef 0 0 0) 36),(k,cE (AO x p.gen p.root p.next) 36)]) (λ_ h=>h) ?_
 refine gC (Pi (Fz p q) x p.gen p.root p.next (volE p q) M1 (wCt (h.mono O) q) (PoQ.dead (p:=p) (λ_ h=>by rw[Qo h]) F) (volV p q) a) ?_;rintro _ M3 _ ae ⟨Q,E,L,aa,rfl⟩
 simp only[List.cons_append,List.nil_append]
 refine Am (jT (Ao (Ah ?_)))
 refine jp rfl ?_
 refine lq (Ak rfl rfl rfl rfl rfl) ?_
 refine Dz rfl (Ae rfl rfl rfl rfl rfl rfl rfl rfl) ?_;rintro _ _ _ ⟨rfl,rfl⟩
 refine Am (jT (Ao ?_))
 have K:0<=(volV p q).id/\(volV p q).id<4294967296:=wFs hq
 refine BU (M':=M3) (L':=[(a,cE (Jg Q p.gen p.root p.next E) 127),(j,cE (CU ⟨(volV p q).id,(volV p q).root,frz,(volV p q).frm⟩) 82),(i,cE (AO Ef 0 0 0) 36),(k,cE (AO x p.gen p.root p.next) 36)]) (λ_ h=>h) ?_
 refine gC (Qn (EP (Fz p q) (volV p q).root) Q p.gen p.root p.next E M3 L (PoQ.dead (p:=p) (λ_ h=>Xc (p:=p) (λ_ h=>by rw[Qo h]) h) F) ⟨(volV p q).id,(volV p q).root,frz,(volV p q).frm⟩ K a) ?_;rintro _ I _ ad ⟨J,X,U,S,H,o,rfl⟩
 simp only[List.cons_append,List.nil_append]
 refine Am (jT ?_)
 refine Du (α:=V5×Int×Int×Int×Int×Mem) (λ_=>[(6,pB i),(8,pB a)]) (λz=>z.2.2.2.2.2) (λz=>[(a,cE (Jg z.1 z.2.1 z.2.2.1 z.2.2.2.1 z.2.2.2.2.1) 127),(j,cE (CU ⟨(volV p q).id,(volV p q).root,frz,(volV p q).frm⟩) 82),(i,cE (AO Ef 0 0 0) 36),(k,cE (AO x p.gen p.root p.next) 36)]) (λz=>PoQ (PM (volV p q).root (Jb (EP (Fz p q) (volV p q).root) ⟨(volV p q).id,(volV p q).root,frz,(volV p q).frm⟩)) z.2.2.2.2.2 z.1 z.2.1 z.2.2.1 z.2.2.2.1 z.2.2.2.2.1/\∀b,PM (volV p q).root (Jb (EP (Fz p q) (volV p q).root) ⟨(volV p q).id,(volV p q).root,frz,(volV p q).frm⟩)=.ok b->b.dead.length<=1000000/\Aq b.st) ?_ ?_
 ·rintro ⟨P,V,T,R,Y,Z⟩ ⟨l,C⟩
  try dsimp only at l C⊢
  refine Ao ?_
  refine BU (M':=Z) (L':=[(a,cE (Jg P V T R Y) 127),(j,cE (CU ⟨(volV p q).id,(volV p q).root,frz,(volV p q).frm⟩) 82),(i,cE (AO Ef 0 0 0) 36),(k,cE (AO x p.gen p.root p.next) 36)]) (λ_ h=>h) ?_
  refine gC (Qp (PM (volV p q).root (Jb (EP (Fz p q) (volV p q).root) ⟨(volV p q).id,(volV p q).root,frz,(volV p q).frm⟩)) P V T R Y Z l C a) ?_;rintro _ M7 _ ac ⟨s,rfl⟩
  simp only[List.cons_append,List.nil_append]
  obtain⟨y,g,r1,m,e3,rfl,ab⟩:=s.q
  refine gr ?_
  exact⟨s,rfl⟩
 refine Ao ?_
 have N:∀b,Jb (EP (Fz p q) (volV p q).root) ⟨(volV p q).id,(volV p q).root,frz,(volV p q).frm⟩=.ok b->b.dead=p.dead/\Aq b.st:=λ_ h=>wLm (p:=p) (λ_ h=>Xc (p:=p) (λ_ h=>by rw[Qo h]) h) h
 refine BU (M':=I) (L':=[(a,cE (Jg J X U S H) 127),(j,cE (CU ⟨(volV p q).id,(volV p q).root,frz,(volV p q).frm⟩) 82),(i,cE (AO Ef 0 0 0) 36),(k,cE (AO x p.gen p.root p.next) 36)]) (λ_ h=>h) ?_
 refine Ah ?_
 refine jp rfl ?_
 refine lq (BZ rfl rfl rfl) ?_
 refine lq (Ak rfl rfl rfl rfl rfl) ?_
 refine lq (AE rfl rfl rfl rfl (CJ.loc rfl)) ?_
 refine js rfl (λf=>?_) (λf=>?_)
 ·refine gg ?_
  obtain⟨G,_⟩|⟨_,b,c,B,rfl,rfl,rfl⟩:=o
  ·exact absurd f G
  refine Hr [16,19] [1,12,16,17,18,19] [0,1,2,3,4,5,6,7,8,109,10,11,12,13,14,15,116,17,18,119] I (_) ([(j,cE (CU ⟨(volV p q).id,(volV p q).root,frz,(volV p q).frm⟩) 82)]) ?_
  refine gh ?_
  refine dh rfl (hC (HB b.st (volV p q).root _ I B.st)) ?_;rintro _ M5 _ ⟨e,_,rfl,⟨r,rfl⟩⟩
  refine⟨e,by simp,?_⟩
  simp only[List.nil_append]
  obtain⟨sa,sb,sc,sd,e4,rfl,n⟩:=r.q
  iterate 3 refine dp rfl rfl ?_
  refine dq rfl (BZ rfl rfl rfl) ?_
  refine dq rfl (Ak rfl rfl rfl rfl rfl) ?_
  refine dq rfl (Ak rfl rfl rfl rfl rfl) ?_
  refine Ed rfl rfl (Ae rfl rfl rfl rfl rfl rfl rfl rfl) ?_;rintro _ _ _ ⟨rfl,rfl⟩
  refine⟨e,by simp,?_⟩
  refine Hq rfl rfl rfl (BZ rfl rfl rfl) ?_
  refine Hq rfl rfl rfl (Ak rfl rfl rfl rfl rfl) ?_
  refine G1 rfl rfl (Ae rfl rfl rfl rfl rfl rfl rfl rfl) ?_;rintro _ _ _ ⟨rfl,rfl⟩
  refine⟨e,by simp,?_⟩
  refine gh ?_
  exact AS (⟨sa,sb,sc,sd,J.d⟩,b.gen,b.root,b.next,e4,M5) (Keep.cons (t:=6) rfl (Keep.cons (t:=8) rfl Keep.nil)) ⟨by show PoQ (PM (volV p q).root (Jb (EP (Fz p q) (volV p q).root) ⟨(volV p q).id,(volV p q).root,frz,(volV p q).frm⟩)) _ _ _ _ _ _;rw[c];exact n.po b (B.d.mono e),λq3 D=>(by rw[c]at D;have E:=n.st (q:=b) D;have H:=(N b c).1;exact⟨by rw[E.1,H];exact F,E.2⟩)⟩ (λw h=>h)
 refine gg ?_
 obtain⟨G,c⟩|⟨G,_⟩:=o
 rotate_left
 ·exact absurd G f
 exact AS (J,X,U,S,H,I) (Keep.cons (t:=6) rfl (Keep.cons (t:=8) rfl Keep.nil)) ⟨.inl ⟨f,by rw[c];rfl⟩,λq3 D=>(by rw[c]at D;cases D)⟩ (λw h=>h)
end Go.Proofs.YtdahhoicackcaaaGreat
namespace Go.Proofs.YtdahhoicackcaaaGreat
open Go.Proofs.Tryz
set_option linter.unusedVariables false
set_option maxRecDepth 8000
set_option maxHeartbeats 40000000
set_option linter.unusedSimpArgs false
open Go.RowKit
def UnQ(r:Except Int Po)(M':Mem)(L':Lc)(y:V5)(g r1 n e:Int):Prop:=(e≠0/\r=.error e/\L'=[])\/(e=0/\∃q,r=.ok q/\Aq q.st/\LS M' y.b.v q.st.blocks/\WS M' y.w.v q.st.waits/\BS M' y.n.v q.st.now/\BS M' y.l.v q.st.last/\Own y.d.v L' 3 1 q.dead.length (Al q.dead)/\g=q.gen/\r1=q.root/\n=q.next)
theorem VJ(p:Po)(x:V5)(M:Mem)(h:PT5 M x p)(J:p.dead.length<=1000000)(q:Int):
  SpecL prog 73 #[.agg (AO x p.gen p.root p.next).toArray,.int .u32 q] M [] λu M' V=>∃(y:V5)(g r1 n e:Int),u=.tuple #[.agg (AO y g r1 n).toArray,.int .i64 e]/\UnQ (Nf p q) M' V y g r1 n e:=by
 refine sB func73 ntmps73 ?_;intro W
 refine EV λS Z=>?_
 refine gc (E1 p x M h J q) ?_;rintro _ U k rfl
 refine gA λY=>?_
 refine gj (λc=>?_) λc=>?_
 ·refine gh ?_
  refine zd ([]) rfl ?_
  exact⟨Ef,0,0,0,_,rfl,.inl ⟨c,by unfold Nf;rw[if_neg c],rfl⟩⟩
 refine gc (QA p.st _ p.root (Uf q) U ((h.mono k).st)) ?_;rintro _ L s r
 obtain⟨G,F,E,D,n,X,rfl,I⟩:=r.q
 refine gA λR=>?_
 refine gj (λf=>?_) λf=>?_
 ·refine gh ?_
  refine zd ([]) rfl ?_
  obtain⟨K,b⟩|⟨rfl,_⟩:=I
  rotate_left
  ·exact absurd rfl f
  exact⟨Ef,0,0,0,_,rfl,.inl ⟨f,by unfold Nf;rw[if_pos (Classical.not_not.1 c),b],rfl⟩⟩
 refine gh ?_
 obtain⟨K,_⟩|⟨rfl,t,b,o,Q,P,O,N⟩:=I
 ·exact absurd (Classical.not_not.1 f) K
 refine Hr [6,8,10] [1,6,7,8,9,10] [0,1,2,3,5,104,106,7,108,9,110] L ([(R,.cells #[G.v,F.v,E.v,D.v] 32 (0,0)),(S,cE (AO x p.gen p.root p.next) 36)]) ([]) ?_
 refine gh ?_
 obtain⟨m,l,z,H,j⟩:=h.d
 refine dh rfl (Bu rfl rfl rfl rfl rfl (by kernel_rfl) (by rw[z];exact De m _ l (Al p.dead) L (j.mono (k.trans s)) (Ay _) (DB _) J)) ?_;rintro _ M4 _ ⟨a,T,rfl,i⟩
 refine⟨a,by simp,?_⟩
 obtain⟨C,B,rfl⟩:=i.form
 refine Ed rfl rfl (Ae rfl rfl rfl rfl rfl rfl rfl rfl) ?_;rintro _ _ _ ⟨rfl,rfl⟩
 refine⟨a,by simp,?_⟩
 refine Hq rfl rfl rfl (Ak rfl rfl rfl rfl rfl) ?_
 refine G1 rfl rfl (Ae rfl rfl rfl rfl rfl rfl rfl rfl) ?_;rintro _ _ _ ⟨rfl,rfl⟩
 refine⟨a,by simp,?_⟩
 refine Hq rfl rfl rfl (Ak rfl rfl rfl rfl rfl) ?_
 refine G1 rfl rfl (Ae rfl rfl rfl rfl rfl rfl rfl rfl) ?_;rintro _ _ _ ⟨rfl,rfl⟩
 refine⟨a,by simp,?_⟩
 refine gh ?_
 refine zd (T) rfl ?_
 exact⟨⟨G,F,E,D,⟨C,p.dead.length,B⟩⟩,_,_,_,0,rfl,.inr ⟨rfl,⟨t,p.gen,n,p.next,p.dead⟩,by unfold Nf;rw[if_pos (Classical.not_not.1 c),b],o,Q.mono a,P.mono a,O.mono a,N.mono a,i,rfl,rfl,rfl⟩⟩
def wHa(p:Po)(k:Int):Except Int Po->Except Int Po
 |.error e=>.error e
 |.ok q=>.ok ⟨q.st,q.gen,q.root,q.next,q.dead++[k]⟩
def NB(p:Po)(q:Int):Except Int Po:=if volE p q=0 then (if 19<p.dead.length then .error 9 else wHa p (volV p q).root (Nf p q))else .error (volE p q)
theorem LO(xs:List Int)(k:Int):Al (xs++[k])=Al xs++[.int .i64 k]:=by unfold Al;rw[List.map_append];rfl
variable{i:Int}
theorem Zw{p q:Po}(h:Nf p i=.ok q):q.dead=p.dead:=by
 unfold Nf at h
 split at h
 ·split at h
  ·cases h
  cases h;rfl
 cases h
theorem X6(p:Po)(x:V5)(M:Mem)(h:PT5 M x p)(F:p.dead.length<=1000000)(q:Int):
  SpecL prog 32 #[.agg (AO x p.gen p.root p.next).toArray,.int .u32 q] M [] λu M' Z=>PoP (NB p q) u M'/\Z=[]:=by
 refine sB func32 ntmps32 ?_;intro W
 refine EV λb2 b4=>?_
 refine gc (E1 p x M h F q) ?_;rintro _ Y B rfl
 refine gA λb6=>?_
 refine gj (λf=>?_) λf=>?_
 ·refine gr ?_
  exact⟨by unfold NB;rw[if_neg f];exact⟨f,rfl⟩,rfl⟩
 refine gg ?_
 have L:x.d.n=p.dead.length:=by obtain⟨a,c,e,_⟩:=h.d;exact congrArg (λv=>match v with|Value.slice _ n _=>n|_=>0) e
 refine gj (λE=>?_) λE=>?_
 ·refine gr ?_
  exact⟨by unfold NB;rw[if_pos (Classical.not_not.1 f),if_pos (by omega)];exact⟨by decide,rfl⟩,rfl⟩
 refine gC (VJ p x Y (h.mono B) F q) ?_;rintro _ M2 V N ⟨y,g,r1,n,e2,rfl,s⟩
 refine gj (λr=>?_) λr=>?_
 ·refine gr ?_
  obtain⟨G,k,_⟩|⟨rfl,_⟩:=s
  rotate_left
  ·exact absurd rfl r
  exact⟨by unfold NB;rw[if_pos (Classical.not_not.1 f),if_neg (by omega),k];exact⟨r,rfl⟩,rfl⟩
 refine gh ?_
 obtain⟨G,_⟩|⟨rfl,z,k,K,S,Q,P,O,t,rfl,rfl,rfl⟩:=s
 ·exact absurd (Classical.not_not.1 r) G
 refine gh ?_
 refine lh (Aa (cs:=[_]) rfl rfl rfl (by rfl) (by rfl) (by rfl)) ?_;rintro _ _ _ ⟨U,rfl,rfl,rfl⟩
 refine lh (Ba (R:=V) (m:=1) (news:=[.int .i64 (volV p q).root]) rfl rfl rfl rfl t rfl (λi v J=>CJ.loc (by simpa using J)) rfl (by rfl) (by simp[Value.oneCell']) (by rw[Zw k];omega) (by omega)) ?_;rintro _ _ _ ⟨rfl,R3,rfl,j,_⟩
 obtain⟨I,H,rfl⟩:=j.form
 refine gh ?_
 refine Cj j (by simp) ?_
 intro X a5 c5 o T D C;cases T
 refine gr ?_
 refine⟨?_,rfl⟩
 unfold NB;rw[if_pos (Classical.not_not.1 f),if_neg (by omega),k]
 refine⟨⟨y.b,y.w,y.n,y.l,⟨I,z.dead.length+1,H⟩⟩,rfl,⟨S.mono o,Q.mono o,P.mono o,O.mono o,⟨I,H,?_,?_,?_⟩⟩⟩
 ·show Value.slice _ _ _=Value.slice _ (z.dead++[(volV p q).root]).length _;rw[List.length_append];rfl
 ·show (z.dead++[(volV p q).root]).length<=_;rw[List.length_append];exact D
 show SM X _ (Al (z.dead++[(volV p q).root]));rw[LO];exact C
end Go.Proofs.YtdahhoicackcaaaGreat
namespace Go.Proofs.YtdahhoicackcaaaGreat
open Go.Proofs.Tryz
set_option linter.unusedVariables false
set_option maxRecDepth 8000
set_option maxHeartbeats 40000000
set_option linter.unusedSimpArgs false
open Go.RowKit
def L6(lv:Int)(gone:Bool)(a:Except Int (Sto×List Int))(x:It):Except Int (Sto×List Int):=match a with
 |.error e=>.error e
 |.ok (s,d)=>if gone=false\/x.ref=0 then .ok (s,d)else if 0<lv then .ok (s,d++[x.ref])else match Fo s x.ref with
  |.error e=>.error e
  |.ok t=>.ok (t,d)
variable{a:Except Int (Sto×List Int)}{e lv:Int}{gone:Bool}
theorem wGs{x:It}(h:a=.error e):L6 lv gone a x=.error e:=by subst h;rfl
def Zh(p:Po):Except Int (Sto×List Int)->Except Int Po
 |.error _=>.error 8
 |.ok (s,d)=>if 40<d.length then .error 9 else .ok ⟨s,p.gen,p.root,p.next,d⟩
def ER(p:Po):Int:=p.dead.getLast?.getD 0
def wMk(p:Po):Bool:=decide (((p.st.now.getD (ER p).toNat 0).toNat:Int)=1)
def wGt(p:Po):Int×List It:=(Ai p.st (ER p).toNat).getD (0,[])
def ZU(p:Po):Except Int Po:=if Ax p=0 then (if p.dead=[]then .error 6 else Zh p ((wGt p).2.foldl (L6 (wGt p).1 (wMk p)) (.ok (AF p.st (ER p).toNat,p.dead.dropLast))))else .error (Ax p)
def wPd(r:Except Int (Sto×List Int))(M':Mem)(a b c d:Sl)(e:Int)(dd:List Int):Prop:=(e≠0/\∃k,r=.error k)\/(e=0/\∃t,r=.ok (t,dd)/\Aq t/\LS M' a.v t.blocks/\WS M' b.v t.waits/\BS M' c.v t.now/\BS M' d.v t.last)
theorem WA{p:Po}(h:Ax p=0)(c:p.dead≠[]):p.dead=p.dead.dropLast++[ER p]/\8<=ER p/\ER p<256/\¬p.st.now.getD (ER p).toNat 0=0/\p.dead[p.dead.length-1]? =some (ER p)/\∃lv xs,wGt p=(lv,xs)/\Ai p.st (ER p).toNat=some (lv,xs):=by
 have d:p.dead=p.dead.dropLast++[ER p]:=by
  unfold ER;rw[List.getLast?_eq_some_getLast c];exact(List.dropLast_concat_getLast c).symm
 obtain⟨⟨k,refs,nodes⟩,a⟩:=poChk_is.1 h
 unfold cens at a
 split at a
 ·split at a
  ·cases a
  split at a
  ·cases a
  split at a
  ·cases a
  rename_i i
  have j:ER p∈p.dead:=by rw[d];simp
  obtain⟨g,f,lv,xs,_,b,_⟩:=Kc (Jl i (ER p) (by unfold DW;exact List.mem_append_left _ (List.mem_cons_of_mem _ j)))
  refine⟨d,g,f,λe=>?_,by rw[<-List.getLast?_eq_getElem?];unfold ER;rw[List.getLast?_eq_some_getLast c];rfl,lv,xs,?_,b⟩
  ·unfold Ai at b;rw[if_pos e]at b;cases b
  unfold wGt;rw[b];rfl
 cases a
structure RpI where
 k:Nat
 M:Mem
 a:Sl
 b:Sl
 c:Sl
 d:Sl
 e:Int
 v:Sl
 R:Lc
 dd:List Int
structure RpH(lv:Int)(gone:Bool)(xs:List It)(r0:Except Int (Sto×List Int))(m:Nat)(M0:Mem)(z:RpI):Prop where
 le:z.k<=xs.length
 mle:MLe M0 z.M
 q:wPd ((xs.take z.k).foldl (L6 lv gone) r0) z.M z.a z.b z.c z.d z.e z.dd
 own:Own z.v.v z.R 3 1 z.dd.length (Al z.dd)
 few:z.dd.length<=m+z.k
variable{M:Mem}{dd:List Int}{gn:Bool}{r:Except Int (Sto×List Int)}{t:Sto}
theorem ZT{x:It}{a b c d:Sl}(n:¬(gn=false\/x.ref=0))(m:¬0<lv)(k:r=.ok (t,dd))(l:StQ (Fo t x.ref) M a b c d e):wPd (L6 lv gn r x) M a b c d e dd:=by
 subst k
 have y:L6 lv gn (.ok (t,dd)) x=match Fo t x.ref with|.error e=>.error e|.ok t=>.ok (t,dd):=(if_neg n).trans (if_neg m)
 rw[y]
 rcases l with⟨s,f⟩|⟨rfl,u,f,o,j,i,h,g⟩
 ·exact .inl ⟨s,e,by rw[f]⟩
 exact .inr ⟨rfl,u,by rw[f],o,j,i,h,g⟩
variable{xs:List Int}
theorem SM.tk{b o:Nat}(c:∀i u,(Al xs)[i]? =some u->CM M b (o+i) u):SM M (some ⟨b,o,none⟩) (Al xs.dropLast):=.inr ⟨b,o,rfl,λi u a=>c i u (by
 unfold Al at *
 rw[List.getElem?_map]at a⊢
 rw[List.getElem?_dropLast]at a
 split at a
 ·exact a
 cases a)⟩
variable{k:Nat}{r0:Except Int (Sto×List Int)}
theorem Kw{xs:List It}(hk:k<xs.length):(xs.take (k+1)).foldl (L6 lv gone) r0=L6 lv gone ((xs.take k).foldl (L6 lv gone) r0) xs[k]:=by
 rw[List.take_succ_eq_append_getElem hk,List.foldl_append];rfl
theorem X3(p:Po)(x:V5)(M:Mem)(h:PT5 M x p)(hd:p.dead.length<=1000000)  :
  SpecL prog 33 #[.agg (AO x p.gen p.root p.next).toArray] M [] λu M' L'=>PoP (ZU p) u M'/\L'=[]:=by
 obtain⟨xb,xw,⟨na,nn,nc⟩,xl,⟨da,dn,dc⟩⟩:=x
 obtain⟨_,_,exd,hdc,hds⟩:=id h.d
 cases exd
 obtain⟨_,_,exn,hnc,hns0⟩:=id h.n
 cases exn
 try dsimp only at hdc hnc hds hns0
 show SpecL _ _ #[.agg (FW xb.v xw.v (.slice na p.st.now.length nc) xl.v p.gen p.root p.next (.slice da p.dead.length dc)).toArray] M [] _
 refine sB func33 ntmps33 ?_;intro W
 refine EV λb1 b2=>?_
 refine gc (Fn p _ M h.pt hd) ?_;rintro _ M1 hM1 rfl
 refine gj (λh17=>?_) λh17=>?_
 ·refine gr ?_
  exact⟨by unfold ZU;rw[if_neg h17];exact⟨h17,rfl⟩,rfl⟩
 refine gj (λh23=>?_) λh23=>?_
 ·refine gr ?_
  exact⟨by unfold ZU;rw[if_pos (Classical.not_not.1 h17),if_pos (List.eq_nil_of_length_eq_zero (by omega))];exact⟨by decide,rfl⟩,rfl⟩
 refine gh ?_
 have hlp:0<p.dead.length:=by omega
 have hne:p.dead≠[]:=List.ne_nil_of_length_pos hlp
 obtain⟨hdd,hk8,hk256,hnz,hdl,lv,xs,hrn0,hnd⟩:=WA (Classical.not_not.1 h17) hne
 have hst:=Hf (Classical.not_not.1 h17)
 have hn256:p.st.now.length=256:=hst.2.1.1
 have hask:askE p.st (ER p)=0:=by unfold askE;rw[if_pos hst,if_neg (by omega),if_neg hnz]
 obtain⟨db,dof,e0,hdx⟩:=hds.open (by intro e;have:=congrArg List.length e;rw[Ay,List.length_nil]at this;omega)
 subst e0
 have hdg:(Al p.dead)[p.dead.length-1]? =some (.int .i64 (ER p)):=by unfold Al;rw[List.getElem?_map,hdl];rfl
 obtain⟨nb,no,e0,hnx⟩:=hns0.open (by intro e;have:=congrArg List.length e;rw[Af,List.length_nil]at this;omega)
 subst e0
 refine gh ?_
 refine lq (AE rfl rfl rfl rfl (by rw[show dof+((p.dead.length:Int)-1).toNat*1=dof+(p.dead.length-1)by omega];exact((hdx _ _ hdg).mono hM1).cj _)) ?_
 refine gh ?_
 refine lq (Bc (C6 rfl rfl rfl (.no _) (.of (v:=p.dead.length-1) rfl (by omega) (by omega)) (.no _) (by omega) (by simp)) (v':=.slice (some ⟨db,dof,none⟩) (p.dead.length-1) dc) (by rw[AZ];rfl)) ?_
 refine gC (De (some ⟨db,dof,none⟩) _ dc (Al p.dead.dropLast) M1 ((SM.tk hdx).mono hM1) (by rw[Ay,List.length_dropLast]) (DB _) (by omega)) ?_;rintro _ M2 R2 hM2 hown
 obtain⟨oa,oc,rfl⟩:=hown.form
 refine gc (Jp p.st _ (ER p) M2 ((h.mono (hM1.trans hM2)).st)) ?_;rintro _ M3 hM3 hrn
 unfold RnPost at hrn
 rw[if_pos hask]at hrn
 obtain⟨lv1,ya,yn,yc,e1,rfl,hbn⟩:=BnPost.form hrn
 obtain⟨_,hb⟩|⟨_,xs1,hb,rfl,hns⟩:=hbn
 ·rw [hnd]at hb;cases hb
 rw[hnd]at hb
 cases hb
 refine ga λb7=>?_
 refine lq (AE rfl rfl rfl rfl (((hnx _ _ (by rw[Nat.mul_one];exact Cc (j:=(ER p).toNat) (by omega))).mono (hM1.trans (hM2.trans hM3))).cj _)) ?_
 refine gc (LU p.st (ER p) _ M3 ((h.mono (hM1.trans (hM2.trans hM3))).st)) ?_;rintro _ M5 hM5 hpt
 obtain⟨qa,qb,qc,qd,er,rfl,hq⟩:=hpt.q
 refine ga λb10=>?_
 have hlo:Fo p.st (ER p)=.ok (AF p.st (ER p).toNat):=if_pos hask
 obtain⟨_,h8⟩|⟨rfl,t,h8,htk,g1,g2,g3,g4⟩:=hq
 ·rw [hlo]at h8;cases h8
 rw[hlo]at h8
 cases h8
 obtain⟨gn,hgn⟩:∃gn,gn=wMk p:=⟨_,rfl⟩
 obtain⟨_,_,ps,e_,hyc,hys,hyp,hyb⟩:=id hns
 cases e_
 have hno:=Ar hnd
 have hxl:=hno.len
 have hrpf:ZU p=Zh p (xs.foldl (L6 lv gn) (.ok (AF p.st (ER p).toNat,p.dead.dropLast))):=by unfold ZU;rw[if_pos (Classical.not_not.1 h17),if_neg hne,hrn0,hgn]
 refine gh ?_
 refine Cz (α:=RpI) (λz=>[(1,.pointer (some ⟨b1,0,none⟩)),(2,.pointer (some ⟨b2,0,none⟩)),(7,.pointer (some ⟨b7,0,none⟩)),(9,.bool gn),(10,.pointer (some ⟨b10,0,none⟩)),(11,.int .i64 z.e),(62,.slice ya xs.length yc),(63,.int .i64 (xs.length:Int)),(64,.int .i64 z.k)]) (λz=>z.M) (λz=>(b10,.cells [z.a.v,z.b.v,z.c.v,z.d.v].toArray 32 (0,0))::(b7,.cells [.int .i64 lv,.slice ya xs.length yc].toArray 135 (0,0))::(b2,.cells (AO Ef 0 0 0).toArray 36 (0,0))::(b1,.cells (FW xb.v xw.v (.slice (some ⟨nb,no,none⟩) p.st.now.length nc) xl.v p.gen p.root p.next z.v.v).toArray 36 (0,0))::z.R) (RpH lv gn xs (.ok (AF p.st (ER p).toNat,p.dead.dropLast)) p.dead.dropLast.length M5) (λz=>xs.length-z.k) ⟨0,M5,qa,qb,qc,qd,0,⟨oa,p.dead.length-1,oc⟩,R2,p.dead.dropLast⟩ ⟨Nat.zero_le _,MLe.refl _,.inr ⟨rfl,_,rfl,htk,g1,g2,g3,g4⟩,by show Own _ _ _ _ p.dead.dropLast.length _;rw[List.length_dropLast];exact hown,by show p.dead.dropLast.length<=p.dead.dropLast.length+0;omega⟩ ?_ (hk:=(Keep.cons (t:=1) rfl (Keep.cons (t:=2) rfl (Keep.cons (t:=7) rfl (Keep.ceq (t:=9) rfl (by rw[hgn];rfl) (Keep.cons (t:=10) rfl (Keep.cons (t:=11) rfl (Keep.cons (t:=62) rfl (Keep.cons (t:=63) rfl (Keep.cons (t:=64) rfl Keep.nil)))))))))) (hs:=λw h=>(show St _ _ ((b10,.cells [qa.v,qb.v,qc.v,qd.v].toArray 32 (0,0))::(b7,.cells [.int .i64 lv,.slice ya xs.length yc].toArray 135 (0,0))::(R2++[(b2,.cells (AO Ef 0 0 0).toArray 36 (0,0)),(b1,.cells (FW xb.v xw.v (.slice (some ⟨nb,no,none⟩) p.st.now.length nc) xl.v p.gen p.root p.next (.slice oa (p.dead.length-1) oc)).toArray 36 (0,0))])) w from h).subC λf=>by simp only[Sl.v,List.map_append,List.map_cons,List.map_nil,List.sum_append,List.sum_cons,List.sum_nil];omega)
 rintro⟨k,Mk,ua,ub,uc,ud,e,dv,Rd,dd⟩ hI
 have hk:=hI.le
 try dsimp only at hk⊢
 refine gj (λh65=>?_) λh65=>?_
 ·refine gh ?_
  have hk1:k<xs.length:=by omega
  obtain⟨sb,so,e0,hx⟩:=(hys.mono (hM5.trans hI.mle)).open (by intro e;have:=congrArg List.length e;rw[Aj Ac 5 Ad,List.length_nil]at this;have h2:=congrArg List.length hyp;rw[List.length_map]at h2;omega)
  subst e0
  obtain⟨va,vc,hcl,hvc,hvs⟩:=Au hx hyp (λp hp=>(hyb p hp).mono (hM5.trans hI.mle)) hk1
  refine gh ?_
  refine lq (Bb (cs:=Fk xs[k] va vc) rfl rfl rfl rfl rfl (λi v hv=>(hcl i v hv).cj _)) ?_
  refine gA λb13=>?_
  refine gj (λh77=>?_) λh77=>?_
  ·refine gh ?_
   obtain⟨_,j,hr⟩|⟨h0,_⟩:=id hI.q
   rotate_left
   ·exact absurd h0 h77
   refine Bw ⟨k+1,Mk,ua,ub,uc,ud,e,dv,Rd,dd⟩ ⟨by show k+1<=_;omega,hI.mle,by show wPd ((xs.take (k+1)).foldl _ _) _ _ _ _ _ _ _;rw[Kw hk1];exact .inl ⟨h77,j,wGs hr⟩,hI.own,by show dd.length<=_+(k+1);have:=hI.few;try dsimp only at this;omega⟩ (hs:=λw h=>h.subC λf=>by simp only[List.map_append,List.map_cons,List.map_nil,List.sum_append,List.sum_cons,List.sum_nil];omega)
  refine jp rfl ?_
  refine Zi rfl (λh79=>?_) (λh79=>?_)
  ·refine gj (λh85=>?_) λh85=>?_
   ·refine gh ?_
    obtain⟨h0,_⟩|⟨_,t,hr,htk,g1,g2,g3,g4⟩:=id hI.q
    ·exact absurd (Classical.not_not.1 h77) h0
    try dsimp only at hr
    refine Bw ⟨k+1,Mk,ua,ub,uc,ud,e,dv,Rd,dd⟩ ⟨by show k+1<=_;omega,hI.mle,by show wPd ((xs.take (k+1)).foldl _ _) _ _ _ _ _ _ _;rw[Kw hk1];exact .inr ⟨Classical.not_not.1 h77,t,by rw[hr];exact if_pos (.inr h85),htk,g1,g2,g3,g4⟩,hI.own,by show dd.length<=_+(k+1);have:=hI.few;try dsimp only at this;omega⟩ (hs:=λw h=>h.subC λf=>by simp only[List.map_append,List.map_cons,List.map_nil,List.sum_append,List.sum_cons,List.sum_nil];omega)
   refine gj (λh90=>?_) λh90=>?_
   ·refine gh ?_
    refine lh (Aa (cs:=[_]) rfl rfl rfl (by rfl) (by rfl) (by rfl)) ?_;rintro _ _ _ ⟨b95,rfl,rfl,rfl⟩
    refine lh (Ba (R:=Rd) (m:=1) (news:=[.int .i64 xs[k].ref]) rfl rfl rfl rfl hI.own rfl (λi v hv=>CJ.loc (by simpa using hv)) rfl (by rfl) (by simp[Value.oneCell']) (by have h1:=hI.few;rw[List.length_dropLast]at h1;try dsimp only at h1 ⊢;omega) (by omega)) ?_;rintro _ _ _ ⟨rfl,R3,rfl,hown3,_⟩
    obtain⟨aa,ac,rfl⟩:=hown3.form
    refine gh ?_
    obtain⟨h0,_⟩|⟨_,t,hr,htk,g1,g2,g3,g4⟩:=id hI.q
    ·exact absurd (Classical.not_not.1 h77) h0
    try dsimp only at hr
    have hng:¬(gn=false\/xs[k].ref=0):=λh=>h.elim (λe=>by rw[h79]at e;cases e) h85
    refine Bw ⟨k+1,Mk,ua,ub,uc,ud,e,⟨aa,dd.length+1,ac⟩,R3,(dd++[xs[k].ref])⟩ ⟨by show k+1<=_;omega,hI.mle,by show wPd ((xs.take (k+1)).foldl _ _) _ _ _ _ _ _ _;rw[Kw hk1];exact .inr ⟨Classical.not_not.1 h77,t,by rw[hr];exact(if_neg hng).trans (if_pos h90),htk,g1,g2,g3,g4⟩,by show Own _ _ _ _ (dd++[xs[k].ref]).length _;rw[List.length_append,LO];exact hown3,by show (dd++[xs[k].ref]).length<=_+(k+1);rw[List.length_append];have:=hI.few;try dsimp only at this;show _+1<=_;omega⟩ (hs:=λw h=>(show St _ _ (R3++[(b95,.cells [.int .i64 xs[k].ref].toArray 3 (0,0)),(b13,.cells (Fk xs[k] va vc).toArray 70 (0,0)),(b10,.cells [ua.v,ub.v,uc.v,ud.v].toArray 32 (0,0)),(b7,.cells [.int .i64 lv,.slice (some ⟨sb,so,none⟩) xs.length yc].toArray 135 (0,0)),(b2,.cells (AO Ef 0 0 0).toArray 36 (0,0)),(b1,.cells (FW xb.v xw.v (.slice (some ⟨nb,no,none⟩) p.st.now.length nc) xl.v p.gen p.root p.next (.slice aa (dd.length+1) ac)).toArray 36 (0,0))]) w from h).subC λf=>by simp only[Sl.v,List.map_append,List.map_cons,List.map_nil,List.sum_append,List.sum_cons,List.sum_nil];omega)
   refine gh ?_
   try dsimp only at hI
   refine gh ?_
   obtain⟨h0,_⟩|⟨_,t,hr,htk,g1,g2,g3,g4⟩:=id hI.q
   ·exact absurd (Classical.not_not.1 h77) h0
   try dsimp only at hr
   refine gc (LU t xs[k].ref _ Mk ⟨_,_,_,_,rfl,g1,g2,g3,g4⟩) ?_;rintro _ Ml hMl hpt
   obtain⟨qa,qb,qc,qd,e2,rfl,hq⟩:=hpt.q
   refine gh ?_
   have hng:¬(gn=false\/xs[k].ref=0):=λh=>h.elim (λe=>by rw[h79]at e;cases e) h85
   have hql:=ZT hng h90 hr hq
   refine Bw ⟨k+1,Ml,qa,qb,qc,qd,e2,dv,Rd,dd⟩ ⟨by show k+1<=_;omega,hI.mle.trans hMl,by show wPd ((xs.take (k+1)).foldl _ _) _ _ _ _ _ _ _;rw[Kw hk1];exact hql,hI.own,by show dd.length<=_+(k+1);have:=hI.few;try dsimp only at this;omega⟩ (hs:=λw h=>h.subC λf=>by simp only[List.map_append,List.map_cons,List.map_nil,List.sum_append,List.sum_cons,List.sum_nil];omega)
  refine gh ?_
  obtain⟨h0,_⟩|⟨_,t,hr,htk,g1,g2,g3,g4⟩:=id hI.q
  ·exact absurd (Classical.not_not.1 h77) h0
  try dsimp only at hr
  refine Bw ⟨k+1,Mk,ua,ub,uc,ud,e,dv,Rd,dd⟩ ⟨by show k+1<=_;omega,hI.mle,by show wPd ((xs.take (k+1)).foldl _ _) _ _ _ _ _ _ _;rw[Kw hk1];exact .inr ⟨Classical.not_not.1 h77,t,by rw[hr];exact if_pos (.inl h79),htk,g1,g2,g3,g4⟩,hI.own,by show dd.length<=_+(k+1);have:=hI.few;try dsimp only at this;omega⟩ (hs:=λw h=>h.subC λf=>by simp only[List.map_append,List.map_cons,List.map_nil,List.sum_append,List.sum_cons,List.sum_nil];omega)
 refine gg ?_
 have hfx:xs.take k=xs:=List.take_of_length_le (by omega)
 have hqe:=hI.q
 try dsimp only at hqe
 rw[hfx]at hqe
 refine gj (λh100=>?_) λh100=>?_
 ·refine gr ?_
  obtain⟨_,j,hr⟩|⟨h0,_⟩:=hqe
  rotate_left
  ·exact absurd h0 h100
  exact⟨by rw[hrpf,hr];exact⟨by decide,rfl⟩,rfl⟩
 refine gg ?_
 have hdv:dv.n=dd.length:=by obtain⟨a,c,e⟩:=hI.own.form;exact congrArg (λv=>match v with|Value.slice _ n _=>n|_=>0) e
 refine gj (λh105=>?_) λh105=>?_
 ·refine gr ?_
  obtain⟨h0,_⟩|⟨_,t,hr,htk,g1,g2,g3,g4⟩:=hqe
  ·exact absurd (Classical.not_not.1 h100) h0
  exact⟨by rw[hrpf,hr,show Zh p (.ok (t,dd))=.error 9 from if_pos (by omega)];exact⟨by decide,rfl⟩,rfl⟩
 refine gh ?_
 refine Cj hI.own (by simp) ?_
 intro M9 a9 c9 hM9 e9 h9c h9s
 refine gr ?_
 obtain⟨h0,_⟩|⟨_,t,hr,htk,g1,g2,g3,g4⟩:=hqe
 ·exact absurd (Classical.not_not.1 h100) h0
 refine⟨?_,rfl⟩
 rw[hrpf,hr,show Zh p (.ok (t,dd))=.ok ⟨t,p.gen,p.root,p.next,dd⟩from if_neg (by omega)]
 exact⟨⟨ua,ub,uc,ud,⟨dv.a,dv.n,dv.c⟩⟩,rfl,⟨g1.mono hM9,g2.mono hM9,g3.mono hM9,g4.mono hM9,⟨_,_,e9,h9c,h9s⟩⟩⟩
end Go.Proofs.YtdahhoicackcaaaGreat
namespace Go.Proofs.YtdahhoicackcaaaGreat
open Go.Proofs.Tryz
set_option linter.unusedVariables false
set_option maxRecDepth 8000
set_option linter.unusedSimpArgs false
open Go.RowKit
def wKw{α:Type}(N:Fs)(E:Ent)(Fi:α->Fr)(Mi:α->Mem)(Li:α->Lc)(φ:α->Prop)(μ:α->Nat)(b:Nat)(a:Act)(w:World):Prop:=∃y,φ y/\μ y<b/\Has N (Fi y) a/\St E (Mi y) (Li y) w
theorem NX{p:Nat->Prop}(h:∃m,p m):∃m,p m/\∀k,p k->m<=k:=by
 obtain⟨m,c⟩:=h
 induction m using Nat.strongRecOn with
 |_ m b=>
  by_cases a:∃k,k<m/\p k
  ·obtain ⟨k,g,f⟩:=a;exact b k g f
  exact⟨m,c,λk e=>Nat.le_of_not_lt λd=>a ⟨k,d,e⟩⟩
open Classical in
noncomputable def jmpM {α:Type} (N:Fs) (E:Ent) (Fi:α->Fr) (Mi:α->Mem) (Li:α->Lc) (φ:α->Prop) (μ:α->Nat) (a:Act) (w:World):Nat:=if h:∃m,wKw N E Fi Mi Li φ μ m a w then (NX h).choose else 0
variable{D:List Deferred}{E:Ent}{F:Fr}{L:Lc}{M:Mem}{P:Program}{Q:Exit->Act->World->Prop}{c:Code}{n:Nat}{α:Type}
theorem Yz{i:Code}(l:Nat)(o:α->Fr)(j:α->Mem)(k:α->Lc)(g:α->Prop)(h:α->Nat)(b:Nat)(H:findLabel c l=some i)
  (first:JC P ⟨n,D,none⟩ c F E M L (Exit.jump l (wKw ⟨n,D,none⟩ E o j k g h b) Q))
  (r:∀x,g x->JC P ⟨n,D,none⟩ i (o x) E (j x) (k x) (Exit.jump l (wKw ⟨n,D,none⟩ E o j k g h (h x)) Q)):JC P ⟨n,D,none⟩ (.scope c) F E M L Q:=λa w I C=>by
 refine(wpIn_wide (n:=0)).2 (wp_scope_jumps l (λa w=>∃m,wKw ⟨n,D,none⟩ E o j k g h m a w) (jmpM ⟨n,D,none⟩ E o j k g h) H ?_ λa w u=>?_)
 ·refine (wpIn_wide (n:=0)).1 (wpIn_mono (first a w I C) λe z s d=>?_)
  cases e with
  |goto B=>exact⟨d.1,b,d.2⟩
  |_=>exact d
 classical
 have G:jmpM ⟨n,D,none⟩ E o j k g h a w=(NX u).choose:=dif_pos u
 obtain⟨⟨y,O,N,K,J⟩,_⟩:=(NX u).choose_spec
 refine(wpIn_wide (n:=0)).1 (wpIn_mono (r y O a w K J) λe z s d=>?_)
 cases e with
 |goto B=>
  obtain⟨R,d⟩:=d
  have f:∃m,wKw ⟨n,D,none⟩ E o j k g h m z s:=⟨_,d⟩
  have t:jmpM ⟨n,D,none⟩ E o j k g h z s=(NX f).choose:=dif_pos f
  refine⟨R,f,?_⟩
  rw[G,t]
  exact Nat.lt_of_le_of_lt ((NX f).choose_spec.2 _ d) N
 |_=>exact d
theorem Vs{a:Code}(l:Nat)(i:α->Fr)(g:α->Mem)(h:α->Lc)(f:α->Prop)(e:α->Nat)(b:Nat)(m:findLabel c l=some (.seq .skip a))
  (d:∀x k,f x->e x<=k->JC P ⟨n,D,none⟩ a (i x) E (g x) (h x) (Exit.jump l (wKw ⟨n,D,none⟩ E i g h f e k) Q))
  (first:(∀x,f x->e x<=b->JC P ⟨n,D,none⟩ a (i x) E (g x) (h x) (Exit.jump l (wKw ⟨n,D,none⟩ E i g h f e b) Q))->JC P ⟨n,D,none⟩ c F E M L (Exit.jump l (wKw ⟨n,D,none⟩ E i g h f e b) Q)):JC P ⟨n,D,none⟩ (.scope c) F E M L Q:=
 Yz l i g h f e b m (first λx j o=>d x b j o) λx j=>Ao (D0 (jT (d x (e x) j (Nat.le_refl _))))
variable{N:Fs}{l:Nat}{Fi:α->Fr}{Li:α->Lc}{Mi:α->Mem}{μ:α->Nat}{φ:α->Prop}
theorem wNa{b:Nat}(y:α)(hk:Keep F (Fi y))(a:φ y)(d:μ y<b)(hs:∀w,St E M L w->St E (Mi y) (Li y) w):JQ N (.goto l) F E M L (Exit.jump l (wKw N E Fi Mi Li φ μ b) Q):=λ_ w e c=>⟨rfl,y,a,d,e.keep hk,hs w c⟩
variable{J:Act->World->Prop}{e:Exit}
theorem jJ(c:∀l,e≠.goto l)(h:JQ N e F E M L Q):JQ N e F E M L (Exit.jump l J Q):=λa w d b=>by
 cases e<;>first|exact absurd rfl (c _)|exact h a w d b
section
variable{P:Program}{N:Fs}{F:Fr}{E:Ent}{M:Mem}{L:Lc}{Q:Exit->Act->World->Prop}
theorem wJj{l:Nat}(h:JQ N (.goto l) F E M L Q):JC P N (.goto l) F E M L Q:=λa w c b=>wpIn_goto (h a w c b)
end
end Go.Proofs.YtdahhoicackcaaaGreat
