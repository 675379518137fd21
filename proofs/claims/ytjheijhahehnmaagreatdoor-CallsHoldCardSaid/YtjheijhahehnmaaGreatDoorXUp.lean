/- Lemmas. -/
import Derived.Test.YtjheijhahehnmaaGreatDoorXUl
namespace Go.Proofs.YtjheijhahehnmaaGreatDoor
open Go.Proofs.Tryz
open List (cons_append nil_append range replicate map_append length_append length length_nil map_cons map_nil sum_append sum_cons sum_nil)
set_option linter.unusedSimpArgs false
set_option linter.unusedVariables false
set_option linter.unusedSectionVars false
set_option maxHeartbeats 40000000
set_option maxRecDepth 8000
open Go.RowKit
def Xy(q:Po):Except Int Sto->Except Int Po
 |.error e=>.error e
 |.ok t=>.ok ⟨t,q.gen,q.root,q.next,q.dead⟩
variable{M':Mem}{a:Sl}{e:Int}
theorem StQ.po{r:Except Int Sto}{b c d f:Sl}(h:StQ r M' a b c d e)(q:Po)(l:NI M' f.v q.dead):PoQ (Xy q r) M' ⟨a,b,c,d,f⟩ q.gen q.root q.next e:=by
 rcases h with⟨m,rfl⟩|⟨rfl,t,rfl,_,k,j,i,g⟩
 ·exact .inl ⟨m,rfl⟩
 exact .inr ⟨rfl,_,rfl,⟨k,j,i,g,l⟩,rfl,rfl,rfl⟩
theorem StQ.st{r:Except Int Sto}{b c d:Sl}(h:StQ r M' a b c d e){q p:Po}(f:Xy q r=.ok p):p.dead=q.dead/\Au p.st:=by
 rcases h with⟨i,rfl⟩|⟨rfl,t,rfl,g,_⟩
 ·cases f
 cases f;exact⟨rfl,g⟩
def wXr(k:Int):Except Int Po->Except Int Po
 |.error e=>.error e
 |.ok q=>Xy q (Kb q.st k)
def YO(p:Po)(v:Vo):Except Int (Sto×Int)->Except Int Po
 |.error e=>.error e
 |.ok (t,n)=>wXr v.root (Ej ⟨t,p.gen,p.root,p.next,p.dead⟩ ⟨v.id,n,v.frz,v.frm⟩)
def TU(p:Po)(v:Vo)(byF:Sto->Except Int (Sto×Int)):Except Int Sto->Except Int Po
 |.error e=>.error e
 |.ok t=>YO p v (byF t)
def DD(p:Po)(v:Vo)(byF:Sto->Except Int (Sto×Int)):Except Int Po:=TU p v byF (Km p.st v.root)
theorem Wr(p:Po)(x:V5)(M:Mem)(h:PT5 M x p)(hd:p.dead.length<=1000000)(v:Vo)(hv:0<=v.id/\v.id<4294967296)(xk xi xo xr:Int)(xv:Value)(G:FuncId)(hgo:De prog G=true)(b:Sto->Except Int (Sto×Int))(Y:∀(s:Sto)(sv:Value)(D:Mem),MLe M D->ST D sv s->Sg G #[sv,iL v.root,.agg #[iB xk,iU xi,iU xo,iL xr,xv]] D [] λu H L2=>PtPost (b s) u H/\L2=[]):
  Sg 267 #[.agg (Bk x p.gen p.root p.next).toArray,.agg (Ds v).toArray,.func (.func G) #[] #[],.agg #[iB xk,iU xi,iU xo,iL xr,xv]] M [] λu M' L'=>PoP (PJ (DD p v b)) u M'/\L'=[]:=by
 refine sB func267 ntmps267 ?_;intro W;refine ga5 λb4 b5 b7 C B=>?_;refine Lv rfl rfl rfl rfl rfl ?_;refine gc (FL p.st v.root _ M h.st) ?_;rintro _ D P U;obtain⟨qa,qb,qc,qd,er,rfl,e⟩:=U.q;refine gj (λo=>?_) λo=>?_
 ·refine gh ?_;obtain⟨z,c⟩|⟨rfl,_⟩:=e;rotate_left
  ·exact aD rfl o
  have a:DD p v b=.error er:=by unfold DD;rw[c];rfl
  refine AL (M':=D) (L':=[(B,cE [iL er] 40),(C,cE (Bk Gg 0 0 0) 32)]) (λw h=>h.fewer (.cons_cons _ (.cons_cons _ (.cons _ (.cons _ (.cons _ .slnil)))))) ?_;refine BO (by simp) (by kernel_rfl) (Cn (DD p v b) Gg 0 0 0 er D (a▸.inl ⟨o,rfl⟩) (λq e=>(by rw[a]at e;cases e)) C B) ?_;rintro M9 _ F ⟨R,g9,T,S,e9,E,rfl⟩;simp only[cons_append,nil_append];refine gr ?_;exact⟨E.p,rfl⟩
 refine gh ?_;obtain⟨z,_⟩|⟨rfl,t,c,ac,g1,g2,g3,g4⟩:=e
 ·exact aD (nN o) z
 have I:ST D (.agg #[qa.v,qb.v,qc.v,qd.v]) t:=⟨_,_,_,_,rfl,g1,g2,g3,g4⟩;refine gh ?_;refine lh (BU rfl rfl rfl rfl rfl hgo (Y t _ D P I)) ?_;rintro _ H _ ⟨aa,_,rfl,⟨N,rfl⟩⟩;simp only[nil_append];obtain⟨ra,rb,rc,rd,n,Q,rfl,f⟩:=N.q;refine gj (λl=>?_) λl=>?_
 ·refine gh ?_;obtain⟨z,j⟩|⟨rfl,_⟩:=f;rotate_left
  ·exact aD rfl l
  have a:DD p v b=.error Q:=by unfold DD;rw[c];unfold TU;dsimp only;rw[j];rfl
  refine AL (M':=H) (L':=[(B,cE [iL Q] 40),(C,cE (Bk Gg 0 0 0) 32)]) (λw h=>h.fewer (.cons_cons _ (.cons_cons _ (.cons _ (.cons _ (.cons _ .slnil)))))) ?_;refine BO (by simp) (by kernel_rfl) (Cn (DD p v b) Gg 0 0 0 Q H (a▸.inl ⟨l,rfl⟩) (λq e=>(by rw[a]at e;cases e)) C B) ?_;rintro M9 _ F ⟨R,g9,T,S,e9,E,rfl⟩;simp only[cons_append,nil_append];refine gr ?_;exact⟨E.p,rfl⟩
 refine gh ?_;obtain⟨z,_⟩|⟨rfl,u,j,ab,k1,k2,k3,k4⟩:=f
 ·exact aD (nN l) z
 have X:PT5 H ⟨ra,rb,rc,rd,x.d⟩ ⟨u,p.gen,p.root,p.next,p.dead⟩:=⟨k1,k2,k3,k4,h.d.mono (P.trans aa)⟩;refine gc (JN ⟨u,p.gen,p.root,p.next,p.dead⟩ ⟨ra,rb,rc,rd,x.d⟩ H X hd ⟨v.id,n,v.frz,v.frm⟩ hv) ?_;rintro _ M3 ad V;obtain⟨y,g,r1,m,e3,rfl,K⟩:=V.q;refine gj (λk=>?_) λk=>?_
 ·refine gh ?_;obtain⟨z,i⟩|⟨rfl,_⟩:=K;rotate_left
  ·exact aD rfl k
  have a:DD p v b=.error e3:=by unfold DD;rw[c];unfold TU;dsimp only;rw[j];unfold YO;dsimp only;rw[i];rfl
  refine AL (M':=M3) (L':=[(B,cE [iL e3] 40),(C,cE (Bk Gg 0 0 0) 32)]) (λw h=>h.fewer (.cons_cons _ (.cons_cons _ (.cons _ (.cons _ (.cons _ .slnil)))))) ?_;refine BO (by simp) (by kernel_rfl) (Cn (DD p v b) Gg 0 0 0 e3 M3 (a▸.inl ⟨k,rfl⟩) (λq e=>(by rw[a]at e;cases e)) C B) ?_;rintro M9 _ F ⟨R,g9,T,S,e9,E,rfl⟩;simp only[cons_append,nil_append];refine gr ?_;exact⟨E.p,rfl⟩
 refine gh ?_;obtain⟨z,_⟩|⟨rfl,q,i,O,rfl,rfl,rfl⟩:=K
 ·exact aD (nN k) z
 refine gc (H5 q.st v.root _ M3 O.st) ?_;rintro _ M4 Z L;obtain⟨sa,sb,sc,sd,e4,rfl,J⟩:=L.q;refine gh ?_;have a:DD p v b=Xy q (Kb q.st v.root):=by unfold DD;rw[c];unfold TU;dsimp only;rw[j];unfold YO;dsimp only;rw[i];rfl
 refine AL (M':=M4) (L':=[(B,cE [iL e4] 40),(C,cE (Bk ⟨sa,sb,sc,sd,y.d⟩ q.gen q.root q.next) 32)]) (λw h=>h.fewer (.cons_cons _ (.cons_cons _ (.cons _ (.cons _ (.cons _ .slnil)))))) ?_;refine BO (by simp) (by kernel_rfl) (Cn (DD p v b) ⟨sa,sb,sc,sd,y.d⟩ q.gen q.root q.next e4 M4 (a▸J.po q (O.d.mono Z)) (λq2 f=>(by have e1:=J.st (a▸f);have Q:=(K7 i).1;exact⟨by rw[e1.1,Q];exact hd,e1.2⟩)) C B) ?_;rintro M9 _ F ⟨R,g9,T,S,e9,E,rfl⟩;simp only[cons_append,nil_append];refine gr ?_;exact⟨E.p,rfl⟩
theorem wTh(p:Po)(x:V5)(M:Mem)(h:PT5 M x p)(hd:p.dead.length<=1000000)(v:Vo)(hv:0<=v.id/\v.id<4294967296)(k:Ky)(H:FuncId)(hgo:De prog H=true)(b:Sto->Except Int (Sto×Int))(Z:∀(s:Sto)(sv:Value)(E:Mem),MLe M E->ST E sv s->Sg H #[sv,iL v.root,.agg (Az k).toArray] E [] λu I L2=>PtPost (b s) u I/\L2=[]):
  Sg 328 #[.agg (Bk x p.gen p.root p.next).toArray,.agg (Ds v).toArray,.func (.func H) #[] #[],.agg (Az k).toArray] M [] λu M' L'=>PoP (PJ (DD p v b)) u M'/\L'=[]:=by
 refine sB func328 ntmps328 ?_;intro W;refine ga5 λb4 b5 b7 D C=>?_;refine Lv rfl rfl rfl rfl rfl ?_;refine gc (FL p.st v.root _ M h.st) ?_;rintro _ E Q V;obtain⟨qa,qb,qc,qd,er,rfl,e⟩:=V.q;refine gj (λz=>?_) λz=>?_
 ·refine gh ?_;obtain⟨B,c⟩|⟨rfl,_⟩:=e;rotate_left
  ·exact aD rfl z
  have a:DD p v b=.error er:=by unfold DD;rw[c];rfl
  refine AL (M':=E) (L':=[(C,cE [iL er] 40),(D,cE (Bk Gg 0 0 0) 32)]) (λw h=>h.fewer (.cons_cons _ (.cons_cons _ (.cons _ (.cons _ (.cons _ .slnil)))))) ?_;refine BO (by simp) (by kernel_rfl) (Cn (DD p v b) Gg 0 0 0 er E (a▸.inl ⟨z,rfl⟩) (λq e=>(by rw[a]at e;cases e)) D C) ?_;rintro M9 _ G ⟨S,g9,U,T,e9,F,rfl⟩;simp only[cons_append,nil_append];refine gr ?_;exact⟨F.p,rfl⟩
 refine gh ?_;obtain⟨B,_⟩|⟨rfl,t,c,ad,g1,g2,g3,g4⟩:=e
 ·exact aD (nN z) B
 have J:ST E (.agg #[qa.v,qb.v,qc.v,qd.v]) t:=⟨_,_,_,_,rfl,g1,g2,g3,g4⟩;refine gh ?_;refine lh (BU rfl rfl rfl rfl rfl hgo (Z t _ E Q J)) ?_;rintro _ I _ ⟨ab,_,rfl,⟨O,rfl⟩⟩;simp only[nil_append];obtain⟨ra,rb,rc,rd,n,R,rfl,f⟩:=O.q;refine gj (λo=>?_) λo=>?_
 ·refine gh ?_;obtain⟨B,j⟩|⟨rfl,_⟩:=f;rotate_left
  ·exact aD rfl o
  have a:DD p v b=.error R:=by unfold DD;rw[c];unfold TU;dsimp only;rw[j];rfl
  refine AL (M':=I) (L':=[(C,cE [iL R] 40),(D,cE (Bk Gg 0 0 0) 32)]) (λw h=>h.fewer (.cons_cons _ (.cons_cons _ (.cons _ (.cons _ (.cons _ .slnil)))))) ?_;refine BO (by simp) (by kernel_rfl) (Cn (DD p v b) Gg 0 0 0 R I (a▸.inl ⟨o,rfl⟩) (λq e=>(by rw[a]at e;cases e)) D C) ?_;rintro M9 _ G ⟨S,g9,U,T,e9,F,rfl⟩;simp only[cons_append,nil_append];refine gr ?_;exact⟨F.p,rfl⟩
 refine gh ?_;obtain⟨B,_⟩|⟨rfl,u,j,ac,k1,k2,k3,k4⟩:=f
 ·exact aD (nN o) B
 have Y:PT5 I ⟨ra,rb,rc,rd,x.d⟩ ⟨u,p.gen,p.root,p.next,p.dead⟩:=⟨k1,k2,k3,k4,h.d.mono (Q.trans ab)⟩;refine gc (JN ⟨u,p.gen,p.root,p.next,p.dead⟩ ⟨ra,rb,rc,rd,x.d⟩ I Y hd ⟨v.id,n,v.frz,v.frm⟩ hv) ?_;rintro _ M3 ae X;obtain⟨y,g,r1,m,e3,rfl,L⟩:=X.q;refine gj (λl=>?_) λl=>?_
 ·refine gh ?_;obtain⟨B,i⟩|⟨rfl,_⟩:=L;rotate_left
  ·exact aD rfl l
  have a:DD p v b=.error e3:=by unfold DD;rw[c];unfold TU;dsimp only;rw[j];unfold YO;dsimp only;rw[i];rfl
  refine AL (M':=M3) (L':=[(C,cE [iL e3] 40),(D,cE (Bk Gg 0 0 0) 32)]) (λw h=>h.fewer (.cons_cons _ (.cons_cons _ (.cons _ (.cons _ (.cons _ .slnil)))))) ?_;refine BO (by simp) (by kernel_rfl) (Cn (DD p v b) Gg 0 0 0 e3 M3 (a▸.inl ⟨l,rfl⟩) (λq e=>(by rw[a]at e;cases e)) D C) ?_;rintro M9 _ G ⟨S,g9,U,T,e9,F,rfl⟩;simp only[cons_append,nil_append];refine gr ?_;exact⟨F.p,rfl⟩
 refine gh ?_;obtain⟨B,_⟩|⟨rfl,q,i,P,rfl,rfl,rfl⟩:=L
 ·exact aD (nN l) B
 refine gc (H5 q.st v.root _ M3 P.st) ?_;rintro _ M4 aa N;obtain⟨sa,sb,sc,sd,e4,rfl,K⟩:=N.q;refine gh ?_;have a:DD p v b=Xy q (Kb q.st v.root):=by unfold DD;rw[c];unfold TU;dsimp only;rw[j];unfold YO;dsimp only;rw[i];rfl
 refine AL (M':=M4) (L':=[(C,cE [iL e4] 40),(D,cE (Bk ⟨sa,sb,sc,sd,y.d⟩ q.gen q.root q.next) 32)]) (λw h=>h.fewer (.cons_cons _ (.cons_cons _ (.cons _ (.cons _ (.cons _ .slnil)))))) ?_;refine BO (by simp) (by kernel_rfl) (Cn (DD p v b) ⟨sa,sb,sc,sd,y.d⟩ q.gen q.root q.next e4 M4 (a▸K.po q (P.d.mono aa)) (λq2 f=>(by have e1:=K.st (a▸f);have R:=(K7 i).1;exact⟨by rw[e1.1,R];exact hd,e1.2⟩)) D C) ?_;rintro M9 _ G ⟨S,g9,U,T,e9,F,rfl⟩;simp only[cons_append,nil_append];refine gr ?_;exact⟨F.p,rfl⟩
theorem wPo:∀{vs:List Vo}{q:Int}{v:Vo},Kf vs q=some v->v.id=q:=λ{vs q v} h=>by
 unfold Kf at h
 have:=List.find?_some h
 exact oT this
theorem GL{p:Po}{q:Int}(h:BQ p q=0):(As p q).id=q:=by
 unfold BQ As at *;split at h
 ·cases h
 rename_i b r n c;cases a:Kf b q with
 |none=>rw[a]at h;cases h
 |some v=>exact wPo a
theorem Ks{p:Po}{q:Int}(h:wPg p q=0):BQ p q=0:=by
 unfold wPg at h;split at h
 ·cases h
 exact h
def Hy(p:Po)(q:Int)(x:It):Except Int Po:=if wPg p q=0 then (if Ca x=0 then (if x.ref≠0/\QV p x.ref true≠0 then .error 6 else PJ (DD p (As p q) λs=>HG s (As p q).root x))else .error (Ca x))else .error (wPg p q)
def Nj(p:Po)(q:Int)(k:Ky):Except Int Po:=if wPg p q=0 then PJ (DD p (As p q) λs=>LR s (As p q).root k)else .error (wPg p q)
theorem wAh(p:Po)(x:V5)(M:Mem)(h:PT5 M x p)(n:p.dead.length<=1000000)(q:Int)(F:0<=q/\q<4294967296)(a:It)(E:Value)(l:BS M E a.val)(hk:Bh a.key):
  Sg 174 #[.agg (Bk x p.gen p.root p.next).toArray,iU q,.agg #[iB a.key.kind,iU a.key.id,iU a.key.off,iL a.ref,E]] M [] λu M' K=>PoP (Hy p q a) u M'/\K=[]:=by
 obtain⟨N,L,rfl,H,G⟩:=id l;refine sB func174 ntmps174 ?_;intro W;refine VY λR Q P=>?_;refine gc (Pq p x M h n q) ?_;rintro _ o c rfl;refine gA λO=>?_;refine gj (λb=>?_) λb=>?_
 ·refine gr ?_;exact⟨by unfold Hy;rw[iN b];exact⟨b,rfl⟩,rfl⟩
 refine gQ (CO a _ o (l.mono c)) ?_;refine gj (λd=>?_) λd=>?_
 ·refine gr ?_;exact⟨by unfold Hy;rw[iP (nN b),iN d];exact⟨d,rfl⟩,rfl⟩
 refine gj (λk=>?_) λk=>?_
 ·refine gQ ((Kg p x o (h.mono c) n a.ref true).mono λ_ _ _ h=>h.1) ?_;refine gj (λj=>?_) λj=>?_
  ·refine gr ?_;exact⟨by unfold Hy;rw[iP (nN b),iP (nN d),iP ⟨k,j⟩];exact⟨by decide,rfl⟩,rfl⟩
  refine gh ?_;have f:0<=(As p q).id/\(As p q).id<4294967296:=by rw[GL (Ks (nN b))];exact F
  refine gc (Wr p x o (h.mono c) n (As p q) f a.key.kind a.key.id a.key.off a.ref _ 172 (by kernel_rfl) (λs=>HG s (As p q).root a) (λs w D i z=>HE s w _ (As p q).root a D z ((l.mono c).mono i) hk)) ?_;rintro _ J C e;obtain⟨y,g,r1,m,I,rfl,B⟩:=e.q;refine gr ?_;exact⟨by unfold Hy;rw[iP (nN b),iP (nN d),iN λh=>j h.2];exact e,rfl⟩
 refine gh ?_;have f:0<=(As p q).id/\(As p q).id<4294967296:=by rw[GL (Ks (nN b))];exact F
 refine gc (Wr p x o (h.mono c) n (As p q) f a.key.kind a.key.id a.key.off a.ref _ 172 (by kernel_rfl) (λs=>HG s (As p q).root a) (λs w D i z=>HE s w _ (As p q).root a D z ((l.mono c).mono i) hk)) ?_;rintro _ J C e;obtain⟨y,g,r1,m,I,rfl,B⟩:=e.q;refine gr ?_;exact⟨by unfold Hy;rw[iP (nN b),iP (nN d),iN λh=>k h.1];exact e,rfl⟩
theorem wAm(p:Po)(x:V5)(M:Mem)(h:PT5 M x p)(e:p.dead.length<=1000000)(q:Int)(l:0<=q/\q<4294967296)(k:Ky):
  Sg 285 #[.agg (Bk x p.gen p.root p.next).toArray,iU q,.agg (Az k).toArray] M [] λu M' B=>PoP (Nj p q k) u M'/\B=[]:=by
 refine sB func285 ntmps285 ?_;intro W;refine VY λG F E=>?_;refine gc (Pq p x M h e q) ?_;rintro _ z d rfl;refine gA λD=>?_;refine gj (λa=>?_) λa=>?_
 ·refine gr ?_;exact⟨by unfold Nj;rw[iN a];exact⟨a,rfl⟩,rfl⟩
 refine gh ?_;have c:0<=(As p q).id/\(As p q).id<4294967296:=by rw[GL (Ks (nN a))];exact l
 refine gc (wTh p x z (h.mono d) e (As p q) c k 184 (by kernel_rfl) (λs=>LR s (As p q).root k) (λs f w o i=>SP s f (As p q).root k w i)) ?_;rintro _ H n b;obtain⟨y,g,r1,m,C,rfl,j⟩:=b.q;refine gr ?_;exact⟨by unfold Nj;rw[iP (nN a)];exact b,rfl⟩
def EC(p:Po)(q:Int)(x:It):Option Po:=(Hy p q x).toOption
def Pu(p:Po)(q:Int)(k:Ky):Option Po:=(Nj p q k).toOption
def S7(p:Po)(q:Int)(a b:Ky):Option (List It):=if KQ p q=0 then some (Mo p q a b)else none
structure Ino where
 id:Int
 dir:Bool
 links:Int
 size:Int
deriving DecidableEq
@[irreducible] def inoE(x:Ino):Int:=if x.id<1\/1048576<x.id\/x.links<1\/(if x.dir then 1 else 65535)<x.links\/x.size<0\/(if x.dir then 0 else 4096)<x.size then 8 else 0
def FH(id:Int):Ky:=⟨2,id,0⟩
def Pd(k:Nat)(n:Int):List By:=(range k).map λi=>bU (n / 256 ^ i)
def wJg(b:List By):Int:=b.foldl (λn c=>Nf .i64 (LV .i64 n 8) (c.toNat:Int)) 0
def ET(b:List By):Int:=wJg b.reverse
def LD(x:Ino):It:=⟨FH x.id,0,(if x.dir then 1 else 0)::Pd 2 x.links++Pd 4 x.size⟩
def Sh(n:Int):It:=⟨FH 0,0,Pd 4 n⟩
def J4(i:It):Option Ino:=
 if i.val.length≠7\/1<(i.val.getD 0 0).toNat\/i.ref≠0\/i.key≠FH i.key.id then none
 else (λx=>if inoE x=0 then some x else none) ⟨i.key.id,decide (i.val.getD 0 0=1),ET ((i.val.drop 1).take 2),ET (i.val.drop 3)⟩
def C4(p:Po)(v id:Int):Option Ino:=(Tb p v (FH id)).bind J4
def Fz(p:Po)(v:Int)(x:Ino):Option Po:=if inoE x=0 then EC p v (LD x)else none
def Nu(p:Po)(id:Int):Option Po:=(S7 p id (FH 0) (FH 1)).bind λl=>if l=[]then (EC p id (LD ⟨1,true,1,0⟩)).bind λq=>EC q id (Sh 2)else none
def HU(p:Po)(v:Int)(dir:Bool):Option (Po×Int):=(Tb p v (FH 0)).bind λi=>
 if i.val.length≠4\/i.ref≠0\/ET i.val<2\/1048576<ET i.val then none
 else (EC p v (LD ⟨ET i.val,dir,1,0⟩)).bind λq=>(EC q v (Sh (ET i.val+1))).map λr=>(r,ET i.val)
def HV(p:Po)(v id:Int):Option Po:=Pu p v (FH id)
abbrev LZ:=List By×Int
def Zx(c:By):Bool:=decide (c.toNat<33\/126<c.toNat\/c.toNat=47)
def wPi(s:List By):Int:=if s.length<1\/8<s.length\/s.any Zx=true then 250 else 0
def Ro(id n:Int):Ky:=⟨3,id,n⟩
def wFu:Nat->List By->Int->Int
 |_,[],a=>a
 |k,c::cs,a=>wFu (k+1) cs (Nf .u32 a (LV .u32 (c.toNat:Int) (8*k)))
def Yy(i:It):Option LZ:=if i.val.length<5\/i.ref≠0 then none
 else (λx=>if 1<=x/\x<=1048576/\wPi (i.val.drop 4)=0 then some (i.val.drop 4,x)else none) (wFu 0 (i.val.take 4) 0)
def WJ(a:Option (List LZ×List Int))(i:It):Option (List LZ×List Int):=a.bind λl=>(Yy i).bind λx=>if l.1.any (λy=>decide (y.1=x.1))then none else some (l.1++[x],l.2++[i.key.off])
def DG(p:Po)(v id:Int):Option (List LZ×List Int):=(C4 p v id).bind λx=>if x.dir then (S7 p v (Ro id 0) (Ro id 31)).bind λl=>l.foldl WJ (some ([],[]))else none
def EP(l:List LZ)(s:List By):Option Nat:=l.findIdx? (λy=>decide (y.1=s))
def LW(p:Po)(v id:Int)(s:List By):Option (List LZ×List Int):=(DG p v id).bind λl=>if wPi s=0 then some l else none
def Lo(p:Po)(v id:Int)(s:List By):Option Int:=(LW p v id s).bind λl=>(EP l.1 s).map λk=>(l.1.getD k ([],0)).2
def Hn(s:List Int):Nat:=((range s.length).find? λ(n:Nat)=>decide (s.getD n 0≠(n:Int))).getD s.length
def Hi(p:Po)(v id:Int)(s:List By)(of:Int):Option Po:=(LW p v id s).bind λl=>
 if (EP l.1 s).isSome\/32<=l.2.length\/of<1\/1048576<of then none else EC p v ⟨Ro id (Hn l.2),0,Pd 4 of++s⟩
def Ei(p:Po)(v id:Int)(s:List By):Option Po:=(LW p v id s).bind λl=>(EP l.1 s).bind λk=>Pu p v (Ro id (l.2.getD k 0))
def TL(id b:Int):Int:=if id<1\/1048576<id\/b<0\/32<=b then 2 else 0
def Hq(id b:Int):Ky:=⟨4,id,b⟩
def DI(p:Po)(v id:Int):Option (List Int):=if TL id 0=0 then (S7 p v (Hq id 0) (Hq id 31)).map λl=>l.foldl (λr i=>r.set i.key.off.toNat i.ref) (replicate 32 0)else none
def QP(p:Po)(v id b:Int):Option (List It):=if TL id b=0 then S7 p v (Hq id b) (Hq id b)else none
def EW(p:Po)(v id b:Int):Option (List By):=(QP p v id b).bind λl=>match l with
 |[]=>some (replicate 128 0)
 |i::_=>if i.ref=0 then some (replicate 128 0)else if QV p i.ref false=0 then some (seen p.st i.ref.toNat)else none
def D5(p:Po)(v id b:Int)(d:List By):Option Po:=if TL id b=0/\d.length=128 then (MO p d).toOption.bind λq=>EC q.1 v ⟨Hq id b,q.2,[]⟩else none
def FB(p:Po)(v id b:Int):Option Po:=(QP p v id b).bind λl=>if l=[]then some p else Pu p v (Hq id b)
def G4(p:Po)(q:Int):Except Int Po:=if BQ p q=0 then .ok p else .error (BQ p q)
variable{M:Mem}
theorem wLt{p:Po}{x:V5}(h:PT5 M x p)(q:Int):PoQ (G4 p q) M x p.gen p.root p.next (BQ p q):=by
 unfold G4;by_cases a:BQ p q=0
 ·rw [iP a,a];exact .inr ⟨rfl,p,rfl,h,rfl,rfl,rfl⟩
 rw[iN a];exact .inl ⟨a,rfl⟩
def Ve:Except Int Po->Except Int Po
 |.error e=>.error e
 |.ok q=>.ok ⟨q.st,q.gen,q.root,q.next+1,q.dead⟩
variable{g r1:Int}{y:V5}
theorem PoQ.nxt{r:Except Int Po}{n e:Int}(h:PoQ r M y g r1 n e):PoQ (Ve r) M y g r1 (n+1) e:=by
 rcases h with⟨c,rfl⟩|⟨rfl,q,rfl,a,rfl,rfl,rfl⟩
 ·exact .inl ⟨c,rfl⟩
 exact .inr ⟨rfl,_,rfl,⟨a.b,a.w,a.n,a.l,a.d⟩,rfl,rfl,rfl⟩
theorem PoQ.dead{r:Except Int Po}{p:Po}{k:Nat}(h:∀q,r=.ok q->q.dead=p.dead)(b:p.dead.length<=k):∀q,r=.ok q->q.dead.length<=k:=λq a=>by rw[h q a];exact b
variable{i:Int}
theorem SB{p q:Po}(h:G4 p i=.ok q):q=p:=by
 unfold G4 at h;split at h
 ·cases h;rfl
 cases h
variable{k:Int}
theorem ZP{r:Except Int Po}{p q:Po}(a:∀q,r=.ok q->q.dead=p.dead)(h:G3 r k=.ok q):q.dead=p.dead:=by
 unfold G3 at h;split at h
 ·cases h
 split at h
 ·cases h
 cases h;have b:=a _ rfl;exact b
theorem wUm{r:Except Int Po}{p q:Po}{v:Vo}(a:∀q,r=.ok q->q.dead=p.dead)(h:NU r v=.ok q):q.dead=p.dead/\Au q.st:=by
 unfold NU at h;split at h
 ·cases h
 obtain⟨c,b⟩:=K7 h;exact⟨c.trans (a _ rfl),b⟩
theorem wUe{r:Except Int Po}{p q:Po}(a:∀q,r=.ok q->q.dead=p.dead)(h:Ve r=.ok q):q.dead=p.dead:=by
 unfold Ve at h;split at h
 ·cases h
 cases h;have b:=a _ rfl;exact b
def nvF(p:Po):Nat:=match cens p.st p.root p.next p.dead with|none=>0|some (vs,_,_)=>vs.length
theorem wGe{p:Po}{q:Int}(h:BQ p q=0):AO p=0:=by
 unfold BQ at h;unfold AO;split at h
 ·cases h
 rename_i a;rw[a]
variable{s:Sl}
theorem vl_nv{p:Po}(h:∀vs refs nodes,cens p.st p.root p.next p.dead=some (vs,refs,nodes)->VS M s vs)(b:AO p=0):s.n=nvF p:=by
 obtain⟨⟨vs,refs,nodes⟩,a⟩:=poChk_is.1 b;unfold nvF;rw[a];exact(h vs refs nodes a).1
def UD(p:Po)(q:Int)(frz:Bool):Except Int Po:=if BQ p q=0/\(16<=nvF p\/p.next=4294967295)then .error 9 else
 PJ (NU (Ve (G3 (G4 p q) (As p q).root)) ⟨p.next,(As p q).root,frz,q⟩)
theorem PoQ.nxt2{r:Except Int Po}{n n' e:Int}(h:PoQ r M y g r1 n e)(a:e=0->n'=n+1):PoQ (Ve r) M y g r1 n' e:=by
 have b:=h.nxt;rcases h with⟨c,rfl⟩|⟨rfl,_⟩
 ·exact .inl ⟨c,rfl⟩
 rw[a rfl];exact b
theorem gho_e{r:Except Int Po}{e a:Int}{b:V5}{n:Int}{M':Mem}(h:PoQ r M y g r1 n e)(f:PoQ (G3 r k) M' b g r1 n a)(i:a=0):e=0:=by
 rcases h with⟨j,rfl⟩|⟨rfl,_⟩
 ·rcases f with⟨d,_⟩|⟨_,q,c,_⟩
  ·exact aD i d
  cases c
 rfl
theorem wPn{p:Po}{q:Int}(c:0<=q/\q<4294967296):0<=(As p q).id/\(As p q).id<4294967296:=by
 by_cases h:BQ p q=0
 ·rw [GL h];exact c
 have:As p q=⟨0,0,false,0⟩:=by
  unfold BQ at h;unfold As;split at h
  ·rfl
  rename_i a r n d;cases b:Kf a q with
  |none=>rfl
  |some v=>rw[b]at h;exact aD rfl h
 rw[this];exact⟨by decide,by decide⟩
def wEj(k:Int):Except Int Po->Except Int Po
 |.error e=>.error e
 |.ok q=>Xy q (Kb q.st k)
def wSv(p:Po)(q:Int)(frz:Bool):Except Int Po:=PJ (wEj (As p q).root (NU (G3 (G4 p q) (As p q).root) ⟨(As p q).id,(As p q).root,frz,(As p q).frm⟩))
theorem wBe(p:Po)(x:V5)(M:Mem)(h:PT5 M x p)(F:p.dead.length<=1000000)(hn:0<=p.next/\p.next<4294967296)(q:Int)(b:Bool):
  Sg 58 #[.agg (Bk x p.gen p.root p.next).toArray,iU q,.bool b] M [] λu M' L'=>PoP2 .u32 (KO (UD p q b) p.next) u M'/\L'=[]:=by
 refine sB func58 ntmps58 ?_;intro W;refine Ao (Aj ?_);refine lh (Bz (cs:=[_,_,_,_,_,_,_,_]) rfl rfl rfl rfl) ?_;rintro _ _ _ ⟨l,rfl,rfl,rfl⟩;refine lh (AW rfl rfl) ?_;rintro _ _ _ ⟨o,rfl,rfl,rfl⟩;iterate 2 refine jp rfl ?_
 refine Am (jT (Ao (Aj ?_)));refine lq (K5 rfl rfl rfl rfl rfl) ?_;refine lq (BC (cs:=[_,_,_,_,_,_,_,_,_]) rfl rfl rfl (by rfl)) ?_;refine lh (Bz (cs:=[_,_,_,_,_,_,_,_,_]) rfl rfl rfl rfl) ?_;rintro _ _ _ ⟨a,rfl,rfl,rfl⟩;refine jp rfl ?_;refine Am (jT (Ao ?_));refine Cc (M':=M) (L':=[(a,cE (J6 x p.gen p.root p.next 0) 189),(o,cE (Bk Gg 0 0 0) 32),(l,cE (Bk x p.gen p.root p.next) 32)]) (λ_ h=>h) ?_;refine gC (QA p x M h F q a 0) ?_;rintro _ M1 _ j ⟨rfl,rfl⟩;simp only[cons_append,nil_append];refine lh (AW rfl rfl) ?_;rintro _ _ _ ⟨f,rfl,rfl,rfl⟩;refine Dv rfl (Ak rfl rfl rfl rfl rfl rfl rfl rfl) ?_;rintro _ _ _ ⟨rfl,rfl⟩;refine Am (jT ?_);refine Fw (α:=Mem) (λ_=>[(1,iU q),(2,.bool b),(3,pB l),(6,pB o),(9,pB a),(10,pB f)]) (λz=>z) (λ_=>[(f,cE (Ds (As p q)) 98),(a,cE (J6 x p.gen p.root p.next (BQ p q)) 189),(o,cE (Bk Gg 0 0 0) 32),(l,cE (Bk x p.gen p.root p.next) 32)]) (λz=>MLe M1 z/\¬(BQ p q=0/\(16<=nvF p\/p.next=4294967295))) ?_ ?_
 ·rintro G ⟨c,K⟩;try dsimp only at c⊢
  refine Ao ?_;refine Cc (M':=G) (L':=[(f,cE (Ds (As p q)) 98),(a,cE (J6 x p.gen p.root p.next (BQ p q)) 189),(o,cE (Bk Gg 0 0 0) 32),(l,cE (Bk x p.gen p.root p.next) 32)]) (λ_ h=>h) ?_;refine gC (Qz (G4 p q) x p.gen p.root p.next (BQ p q) G (wLt (h.mono (j.trans c)) q) (PoQ.dead (p:=p) (λ_ h=>by rw[SB h]) F) (As p q) a) ?_;rintro _ S _ ae ⟨J,R,C,aa,rfl⟩;simp only[cons_append,nil_append];refine gh ?_;refine lq (qP rfl rfl) ?_;refine lq (BR rfl rfl rfl) ?_;refine lq (Ah rfl rfl rfl rfl rfl) ?_;refine lq (Ah rfl rfl rfl rfl rfl) ?_;refine Dv rfl (Ak rfl rfl rfl rfl rfl rfl rfl rfl) ?_;rintro _ _ _ ⟨rfl,rfl⟩;refine Am (jT (Ao ?_));have B:PoQ (Ve (G3 (G4 p q) (As p q).root)) S J p.gen p.root (IntKind.u32.wrap (p.next+1)) R:=C.nxt2 λh0=>(by have h1:=gho_e (wLt (h.mono (j.trans c)) q) C h0;rw[IntKind.wrap_u32];have:¬p.next=4294967295:=λh2=>K ⟨h1,.inr h2⟩;omega);refine Cc (M':=S) (L':=[(a,cE (J6 J p.gen p.root (IntKind.u32.wrap (p.next+1)) R) 189),(f,cE (Ds (As p q)) 98),(o,cE (Bk Gg 0 0 0) 32),(l,cE (Bk x p.gen p.root p.next) 32)]) (λ_ h=>h) ?_;refine gC (SA (Ve (G3 (G4 p q) (As p q).root)) J p.gen p.root (IntKind.u32.wrap (p.next+1)) R S B (PoQ.dead (p:=p) (λ_ h=>wUe (λ_ h=>ZP (p:=p) (λ_ h=>by rw[SB h]) h) h) F) ⟨p.next,(As p q).root,b,q⟩ hn a) ?_;rintro _ M4 _ ad ⟨T,Y,V,U,Z,N,rfl⟩;simp only[cons_append,nil_append];refine Am (jT (Ao (Ao ?_)));refine Cc (M':=M4) (L':=[(a,cE (J6 T Y V U Z) 189),(f,cE (Ds (As p q)) 98),(o,cE (Bk Gg 0 0 0) 32),(l,cE (Bk x p.gen p.root p.next) 32)]) (λ_ h=>h) ?_;refine gC (SC _ T Y V U Z M4 N (λ_ h=>(wUm (p:=p) (λ_ h=>wUe (λ_ h=>ZP (p:=p) (λ_ h=>by rw[SB h]) h) h) h).imp (λe=>by rw[e];exact F) id) a) ?_;rintro _ M5 _ ac ⟨O,rfl⟩;simp only[cons_append,nil_append];obtain⟨y,g,r1,m,e3,rfl,s⟩:=O.q;refine gj (λi=>?_) λi=>?_
  ·refine gr ?_;obtain⟨X,I⟩|⟨rfl,_⟩:=s;rotate_left
   ·exact aD rfl i
   exact⟨by rw[show UD p q b=_ from (iN K).trans I];exact⟨i,rfl⟩,rfl⟩
  refine gh ?_;refine Ga [3] [1,2,3,4,5] [0,1,2,103,4,5] M5 (_) ([(l,cE (Bk x p.gen p.root p.next) 32)]) ?_;refine gr ?_;obtain⟨X,I⟩|⟨rfl,q5,I,P,rfl,rfl,rfl⟩:=s
  ·exact aD (nN i) X
  exact⟨by rw[show UD p q b=_ from (iN K).trans I];exact⟨y,rfl,P⟩,rfl⟩
 refine gc (QE p x M1 (h.mono j) F) ?_;rintro _ G c ⟨sv,rfl,L⟩;refine gg ?_;have D:BQ p q=0->AO p=0:=wGe;have E:AO p=0->sv.n=nvF p:=vl_nv L;refine gj (λd=>?_) λd=>?_
 ·refine gt ?_;refine gj (λQ=>?_) λQ=>?_
  ·refine gr ?_;exact⟨by rw[show UD p q b=.error 9 from iP ⟨d,.inl (by rw[<-E (D d)];omega)⟩];exact⟨by decide,rfl⟩,rfl⟩
  refine gj (λk=>?_) λk=>?_
  ·refine gr ?_;exact⟨by rw[show UD p q b=.error 9 from iP ⟨d,.inr k⟩];exact⟨by decide,rfl⟩,rfl⟩
  refine gh ?_;have ab:=E (D d);exact Ct G (kC (t:=1) rfl (kC (t:=2) rfl (kC (t:=3) rfl (kC (t:=6) rfl (kC (t:=9) rfl (kC (t:=10) rfl Keep.nil)))))) ⟨c,by rintro⟨_,H|H⟩;omega;exact k H⟩ (λw h=>h)
 refine gh ?_;exact Ct G (kC (t:=1) rfl (kC (t:=2) rfl (kC (t:=3) rfl (kC (t:=6) rfl (kC (t:=9) rfl (kC (t:=10) rfl Keep.nil)))))) ⟨c,λH=>d H.1⟩ (λw h=>h)
theorem V2(p:Po)(x:V5)(M:Mem)(h:PT5 M x p)(H:p.dead.length<=1000000)(q:Int)(hq:0<=q/\q<4294967296)(a:Bool):
  Sg 59 #[.agg (Bk x p.gen p.root p.next).toArray,iU q,.bool a] M [] λu M' L'=>PoP (wSv p q a) u M'/\L'=[]:=by
 refine sB func59 ntmps59 ?_;intro W;refine Ao (Aj ?_);refine lh (Bz (cs:=[_,_,_,_,_,_,_,_]) rfl rfl rfl rfl) ?_;rintro _ _ _ ⟨l,rfl,rfl,rfl⟩;refine lh (AW rfl rfl) ?_;rintro _ _ _ ⟨j,rfl,rfl,rfl⟩;refine jp rfl ?_;refine Am (jT (Ao (Aj ?_)));refine lq (K5 rfl rfl rfl rfl rfl) ?_;refine lq (BC (cs:=[_,_,_,_,_,_,_,_,_]) rfl rfl rfl (by rfl)) ?_;refine lh (Bz (cs:=[_,_,_,_,_,_,_,_,_]) rfl rfl rfl rfl) ?_;rintro _ _ _ ⟨b,rfl,rfl,rfl⟩;refine jp rfl ?_;refine Am (jT (Ao ?_));refine Cc (M':=M) (L':=[(b,cE (J6 x p.gen p.root p.next 0) 189),(j,cE (Bk Gg 0 0 0) 32),(l,cE (Bk x p.gen p.root p.next) 32)]) (λ_ h=>h) ?_;refine gC (QA p x M h H q b 0) ?_;rintro _ M1 _ Q ⟨rfl,rfl⟩;simp only[cons_append,nil_append];refine lh (AW rfl rfl) ?_;rintro _ _ _ ⟨k,rfl,rfl,rfl⟩;refine Dv rfl (Ak rfl rfl rfl rfl rfl rfl rfl rfl) ?_;rintro _ _ _ ⟨rfl,rfl⟩;refine Am (jT (Ao ?_));refine Cc (M':=M1) (L':=[(k,cE (Ds (As p q)) 98),(b,cE (J6 x p.gen p.root p.next (BQ p q)) 189),(j,cE (Bk Gg 0 0 0) 32),(l,cE (Bk x p.gen p.root p.next) 32)]) (λ_ h=>h) ?_;refine gC (Qz (G4 p q) x p.gen p.root p.next (BQ p q) M1 (wLt (h.mono Q) q) (PoQ.dead (p:=p) (λ_ h=>by rw[SB h]) H) (As p q) b) ?_;rintro _ M3 _ ae ⟨S,G,O,aa,rfl⟩;simp only[cons_append,nil_append];refine Am (jT (Ao (Aj ?_)));refine jp rfl ?_;refine lq (Ah rfl rfl rfl rfl rfl) ?_;refine Dv rfl (Ak rfl rfl rfl rfl rfl rfl rfl rfl) ?_;rintro _ _ _ ⟨rfl,rfl⟩;refine Am (jT (Ao ?_));have N:0<=(As p q).id/\(As p q).id<4294967296:=wPn hq;refine Cc (M':=M3) (L':=[(b,cE (J6 S p.gen p.root p.next G) 189),(k,cE (Ds ⟨(As p q).id,(As p q).root,a,(As p q).frm⟩) 98),(j,cE (Bk Gg 0 0 0) 32),(l,cE (Bk x p.gen p.root p.next) 32)]) (λ_ h=>h) ?_;refine gC (SA (G3 (G4 p q) (As p q).root) S p.gen p.root p.next G M3 O (PoQ.dead (p:=p) (λ_ h=>ZP (p:=p) (λ_ h=>by rw[SB h]) h) H) ⟨(As p q).id,(As p q).root,a,(As p q).frm⟩ N b) ?_;rintro _ K _ ad ⟨L,Z,X,U,J,s,rfl⟩;simp only[cons_append,nil_append];refine Am (jT ?_);refine Fw (α:=V5×Int×Int×Int×Int×Mem) (λ_=>[(6,pB j),(8,pB b)]) (λz=>z.2.2.2.2.2) (λz=>[(b,cE (J6 z.1 z.2.1 z.2.2.1 z.2.2.2.1 z.2.2.2.2.1) 189),(k,cE (Ds ⟨(As p q).id,(As p q).root,a,(As p q).frm⟩) 98),(j,cE (Bk Gg 0 0 0) 32),(l,cE (Bk x p.gen p.root p.next) 32)]) (λz=>PoQ (wEj (As p q).root (NU (G3 (G4 p q) (As p q).root) ⟨(As p q).id,(As p q).root,a,(As p q).frm⟩)) z.2.2.2.2.2 z.1 z.2.1 z.2.2.1 z.2.2.2.1 z.2.2.2.2.1/\∀c,wEj (As p q).root (NU (G3 (G4 p q) (As p q).root) ⟨(As p q).id,(As p q).root,a,(As p q).frm⟩)=.ok c->c.dead.length<=1000000/\Au c.st) ?_ ?_
 ·rintro ⟨R,Y,V,T,e5,M6⟩ ⟨n,E⟩;try dsimp only at n E⊢
  refine Ao ?_;refine Cc (M':=M6) (L':=[(b,cE (J6 R Y V T e5) 189),(k,cE (Ds ⟨(As p q).id,(As p q).root,a,(As p q).frm⟩) 98),(j,cE (Bk Gg 0 0 0) 32),(l,cE (Bk x p.gen p.root p.next) 32)]) (λ_ h=>h) ?_;refine gC (SC (wEj (As p q).root (NU (G3 (G4 p q) (As p q).root) ⟨(As p q).id,(As p q).root,a,(As p q).frm⟩)) R Y V T e5 M6 n E b) ?_;rintro _ M7 _ ac ⟨C,rfl⟩;simp only[cons_append,nil_append];obtain⟨y,g,r1,m,e3,rfl,ab⟩:=C.q;refine gr ?_;exact⟨C,rfl⟩
 refine Ao ?_;have P:∀c,NU (G3 (G4 p q) (As p q).root) ⟨(As p q).id,(As p q).root,a,(As p q).frm⟩=.ok c->c.dead=p.dead/\Au c.st:=λ_ h=>wUm (p:=p) (λ_ h=>ZP (p:=p) (λ_ h=>by rw[SB h]) h) h;refine Cc (M':=K) (L':=[(b,cE (J6 L Z X U J) 189),(k,cE (Ds ⟨(As p q).id,(As p q).root,a,(As p q).frm⟩) 98),(j,cE (Bk Gg 0 0 0) 32),(l,cE (Bk x p.gen p.root p.next) 32)]) (λ_ h=>h) ?_;refine Aj ?_;refine jp rfl ?_;refine lq (BR rfl rfl rfl) ?_;refine lq (Ah rfl rfl rfl rfl rfl) ?_;refine lq (Aw rfl rfl rfl rfl (CJ.loc rfl)) ?_;refine js rfl (λi=>?_) (λi=>?_)
 ·refine gg ?_;obtain⟨I,_⟩|⟨_,c,e,D,rfl,rfl,rfl⟩:=s
  ·exact aD i I
  refine Ga [16,19] [1,12,16,17,18,19] [0,1,2,3,4,5,6,7,8,109,10,11,12,13,14,15,116,17,18,119] K (_) ([(k,cE (Ds ⟨(As p q).id,(As p q).root,a,(As p q).frm⟩) 98)]) ?_;refine gh ?_;refine dh rfl (hC (H5 c.st (As p q).root _ K D.st)) ?_;rintro _ M5 _ ⟨f,_,rfl,⟨B,rfl⟩⟩;refine⟨f,by simp,?_⟩;simp only[nil_append];obtain⟨sa,sb,sc,sd,e4,rfl,o⟩:=B.q;iterate 3 refine dp rfl rfl ?_
  refine dq rfl (BR rfl rfl rfl) ?_;refine dq rfl (Ah rfl rfl rfl rfl rfl) ?_;refine dq rfl (Ah rfl rfl rfl rfl rfl) ?_;refine G2 rfl rfl (Ak rfl rfl rfl rfl rfl rfl rfl rfl) ?_;rintro _ _ _ ⟨rfl,rfl⟩;refine⟨f,by simp,?_⟩;refine JY rfl rfl rfl (BR rfl rfl rfl) ?_;refine JY rfl rfl rfl (Ah rfl rfl rfl rfl rfl) ?_;refine KB rfl rfl (Ak rfl rfl rfl rfl rfl rfl rfl rfl) ?_;rintro _ _ _ ⟨rfl,rfl⟩;refine⟨f,by simp,?_⟩;refine gh ?_;exact Ct (⟨sa,sb,sc,sd,L.d⟩,c.gen,c.root,c.next,e4,M5) (kC (t:=6) rfl (kC (t:=8) rfl Keep.nil)) ⟨by show PoQ (wEj (As p q).root (NU (G3 (G4 p q) (As p q).root) ⟨(As p q).id,(As p q).root,a,(As p q).frm⟩)) _ _ _ _ _ _;rw[e];exact o.po c (D.d.mono f),λq3 F=>(by rw[e]at F;have G:=o.st (q:=c) F;have J:=(P c e).1;exact⟨by rw[G.1,J];exact H,G.2⟩)⟩ (λw h=>h)
 refine gg ?_;obtain⟨I,e⟩|⟨I,_⟩:=s;rotate_left
 ·exact aD I i
 exact Ct (L,Z,X,U,J,K) (kC (t:=6) rfl (kC (t:=8) rfl Keep.nil)) ⟨.inl ⟨i,by rw[e];rfl⟩,λq3 F=>(by rw[e]at F;cases F)⟩ (λw h=>h)
def UnQ(r:Except Int Po)(M':Mem)(L':Lc)(y:V5)(g r1 n e:Int):Prop:=(e≠0/\r=.error e/\L'=[])\/(e=0/\∃q,r=.ok q/\Au q.st/\LS M' y.b.v q.st.blocks/\WS M' y.w.v q.st.waits/\BS M' y.n.v q.st.now/\BS M' y.l.v q.st.last/\Own y.d.v L' 3 1 q.dead.length (Al q.dead)/\g=q.gen/\r1=q.root/\n=q.next)
theorem Yh(p:Po)(x:V5)(M:Mem)(h:PT5 M x p)(I:p.dead.length<=1000000)(q:Int):
  Sg 115 #[.agg (Bk x p.gen p.root p.next).toArray,iU q] M [] λu M' U=>∃(y:V5)(g r1 n e:Int),u=.tuple #[.agg (Bk y g r1 n).toArray,iL e]/\UnQ (Ut p q) M' U y g r1 n e:=by
 refine sB func115 ntmps115 ?_;intro W;refine JM λR Y=>?_;refine gc (DQ p x M h I q) ?_;rintro _ T k rfl;refine gA λX=>?_;refine gj (λc=>?_) λc=>?_
 ·refine gh ?_;refine zd ([]) rfl ?_;exact⟨Gg,0,0,0,_,rfl,.inl ⟨c,by unfold Ut;rw[iN c],rfl⟩⟩
 refine gc (SP p.st _ p.root (wDo q) T ((h.mono k).st)) ?_;rintro _ K w s;obtain⟨F,E,D,C,n,V,rfl,H⟩:=s.q;refine gA λQ=>?_;refine gj (λf=>?_) λf=>?_
 ·refine gh ?_;refine zd ([]) rfl ?_;obtain⟨J,b⟩|⟨rfl,_⟩:=H;rotate_left
  ·exact aD rfl f
  exact⟨Gg,0,0,0,_,rfl,.inl ⟨f,by unfold Ut;rw[iP (nN c),b],rfl⟩⟩
 refine gh ?_;obtain⟨J,_⟩|⟨rfl,t,b,o,P,O,N,L⟩:=H
 ·exact aD (nN f) J
 refine Ga [6,8,10] [1,6,7,8,9,10] [0,1,2,3,5,104,106,7,108,9,110] K ([(Q,.cells #[F.v,E.v,D.v,C.v] 28 (0,0)),(R,cE (Bk x p.gen p.root p.next) 32)]) ([]) ?_;refine gh ?_;obtain⟨m,l,exd,G,j⟩:=h.d;refine dh rfl (BU rfl rfl rfl rfl rfl (by kernel_rfl) (by rw[exd];exact Dm m _ l (Al p.dead) K (j.mono (k.trans w)) (Ay _) (DH _) I)) ?_;rintro _ Z _ ⟨a,S,rfl,i⟩;refine⟨a,by simp,?_⟩;obtain⟨B,z,rfl⟩:=i.form;refine G2 rfl rfl (Ak rfl rfl rfl rfl rfl rfl rfl rfl) ?_;rintro _ _ _ ⟨rfl,rfl⟩;refine⟨a,by simp,?_⟩;refine JY rfl rfl rfl (Ah rfl rfl rfl rfl rfl) ?_;refine KB rfl rfl (Ak rfl rfl rfl rfl rfl rfl rfl rfl) ?_;rintro _ _ _ ⟨rfl,rfl⟩;refine⟨a,by simp,?_⟩;refine JY rfl rfl rfl (Ah rfl rfl rfl rfl rfl) ?_;refine KB rfl rfl (Ak rfl rfl rfl rfl rfl rfl rfl rfl) ?_;rintro _ _ _ ⟨rfl,rfl⟩;refine⟨a,by simp,?_⟩;refine gh ?_;refine zd (S) rfl ?_;exact⟨⟨F,E,D,C,⟨B,p.dead.length,z⟩⟩,_,_,_,0,rfl,.inr ⟨rfl,⟨t,p.gen,n,p.next,p.dead⟩,by unfold Ut;rw[iP (nN c),b],o,P.mono a,O.mono a,N.mono a,L.mono a,i,rfl,rfl,rfl⟩⟩
def rdeN(p:Po)(k:Int):Except Int Po->Except Int Po
 |.error e=>.error e
 |.ok q=>.ok ⟨q.st,q.gen,q.root,q.next,q.dead++[k]⟩
def UR(p:Po)(q:Int):Except Int Po:=if BQ p q=0 then (if 19<p.dead.length then .error 9 else rdeN p (As p q).root (Ut p q))else .error (BQ p q)
theorem ND(xs:List Int)(k:Int):Al (xs++[k])=Al xs++[iL k]:=by unfold Al;rw[map_append];rfl
variable{i:Int}
theorem wGi{p q:Po}(h:Ut p i=.ok q):q.dead=p.dead:=by
 unfold Ut at h;split at h
 ·split at h
  ·cases h
  cases h;rfl
 cases h
theorem wBv(p:Po)(x:V5)(M:Mem)(h:PT5 M x p)(H:p.dead.length<=1000000)(q:Int):
  Sg 61 #[.agg (Bk x p.gen p.root p.next).toArray,iU q] M [] λu M' L'=>PoP (UR p q) u M'/\L'=[]:=by
 refine sB func61 ntmps61 ?_;intro W;refine JM λb2 b4=>?_;refine gc (DQ p x M h H q) ?_;rintro _ M1 D rfl;refine gA λb6=>?_;refine gj (λf=>?_) λf=>?_
 ·refine gr ?_;exact⟨by unfold UR;rw[iN f];exact⟨f,rfl⟩,rfl⟩
 refine gg ?_;have O:x.d.n=p.dead.length:=by obtain⟨a,c,e,_⟩:=h.d;exact congrArg (λv=>match v with|Value.slice _ n _=>n|_=>0) e
 refine gj (λG=>?_) λG=>?_
 ·refine gr ?_;exact⟨by unfold UR;rw[iP (nN f),iP (by omega)];exact⟨by decide,rfl⟩,rfl⟩
 refine gC (Yh p x M1 (h.mono D) H q) ?_;rintro _ M2 Y P ⟨y,g,r1,n,e2,rfl,z⟩;refine gj (λs=>?_) λs=>?_
 ·refine gr ?_;obtain⟨I,k,_⟩|⟨rfl,_⟩:=z;rotate_left
  ·exact aD rfl s
  exact⟨by unfold UR;rw[iP (nN f),iN (by omega),k];exact⟨s,rfl⟩,rfl⟩
 refine gh ?_;obtain⟨I,_⟩|⟨rfl,C,k,N,U,T,S,Q,B,rfl,rfl,rfl⟩:=z
 ·exact aD (nN s) I
 refine gh ?_;refine lh (Ab (cs:=[_]) rfl rfl rfl (by rfl) (by rfl) (by rfl)) ?_;rintro _ _ _ ⟨X,rfl,rfl,rfl⟩;refine lh (AY (R:=Y) (m:=1) (news:=[iL (As p q).root]) rfl rfl rfl rfl B rfl (λi v L=>CJ.loc (by simpa using L)) rfl (by rfl) (by simp[Value.oneCell']) (by rw[wGi k];omega) (by omega)) ?_;rintro _ _ _ ⟨rfl,R3,rfl,j,_⟩;obtain⟨K,J,rfl⟩:=j.form;refine gh ?_;refine BF j (by simp) ?_;intro Z a5 c5 o V F E;cases V;refine gr ?_;refine⟨?_,rfl⟩;unfold UR;rw[iP (nN f),iN (by omega),k];refine⟨⟨y.b,y.w,y.n,y.l,⟨K,C.dead.length+1,J⟩⟩,rfl,⟨U.mono o,T.mono o,S.mono o,Q.mono o,⟨K,J,?_,?_,?_⟩⟩⟩
 ·show Value.slice _ _ _=Value.slice _ (C.dead++[(As p q).root]).length _;rw[length_append];rfl
 ·show (C.dead++[(As p q).root]).length<=_;rw[length_append];exact F
 show SM Z _ (Al (C.dead++[(As p q).root]));rw[ND];exact E
def RX(lv:Int)(gone:Bool)(a:Except Int (Sto×List Int))(x:It):Except Int (Sto×List Int):=match a with
 |.error e=>.error e
 |.ok (s,d)=>if gone=false\/x.ref=0 then .ok (s,d)else if 0<lv then .ok (s,d++[x.ref])else match Ka s x.ref with
  |.error e=>.error e
  |.ok t=>.ok (t,d)
variable{a:Except Int (Sto×List Int)}{e lv:Int}{gone:Bool}
theorem wQm{x:It}(h:a=.error e):RX lv gone a x=.error e:=by subst h;rfl
def wQn(p:Po):Except Int (Sto×List Int)->Except Int Po
 |.error _=>.error 8
 |.ok (s,d)=>if 40<d.length then .error 9 else .ok ⟨s,p.gen,p.root,p.next,d⟩
def GR(p:Po):Int:=p.dead.getLast?.getD 0
def rpG(p:Po):Bool:=decide (((p.st.now.getD (GR p).toNat 0).toNat:Int)=1)
def rpN(p:Po):Int×List It:=(Ag p.st (GR p).toNat).getD (0,[])
def wTy(p:Po):Except Int Po:=if AO p=0 then (if p.dead=[]then .error 6 else wQn p ((rpN p).2.foldl (RX (rpN p).1 (rpG p)) (.ok (AM p.st (GR p).toNat,p.dead.dropLast))))else .error (AO p)
def wYc(r:Except Int (Sto×List Int))(M':Mem)(a b c d:Sl)(e:Int)(dd:List Int):Prop:=(e≠0/\∃k,r=.error k)\/(e=0/\∃t,r=.ok (t,dd)/\Au t/\LS M' a.v t.blocks/\WS M' b.v t.waits/\BS M' c.v t.now/\BS M' d.v t.last)
theorem Zi{p:Po}(h:AO p=0)(c:p.dead≠[]):p.dead=p.dead.dropLast++[GR p]/\8<=GR p/\GR p<256/\¬p.st.now.getD (GR p).toNat 0=0/\p.dead[p.dead.length-1]? =some (GR p)/\∃lv xs,rpN p=(lv,xs)/\Ag p.st (GR p).toNat=some (lv,xs):=by
 have f:p.dead=p.dead.dropLast++[GR p]:=by
  unfold GR;rw[List.getLast?_eq_some_getLast c];exact(List.dropLast_concat_getLast c).symm
 obtain⟨⟨l,d,nodes⟩,a⟩:=poChk_is.1 h;unfold cens at a;split at a
 ·split at a
  ·cases a
  split at a
  ·cases a
  split at a
  ·cases a
  rename_i j;have k:GR p∈p.dead:=by rw[f];simp
  obtain⟨i,g,lv,xs,_,b,_⟩:=K4 (Kh j (GR p) (by unfold DY;exact List.mem_append_left _ (List.mem_cons_of_mem _ k)));refine⟨f,i,g,λe=>?_,by rw[<-List.getLast?_eq_getElem?];unfold GR;rw[List.getLast?_eq_some_getLast c];rfl,lv,xs,?_,b⟩
  ·unfold Ag at b;rw[iP e]at b;cases b
  unfold rpN;rw[b];rfl
 cases a
structure RpI where
 k:Nat
 M:Mem
 a:Sl
 b:Sl
 c:Sl
 d:Sl
 e:Int
 v:Sl
 R:Lc
 dd:List Int
structure RpH(lv:Int)(gone:Bool)(xs:List It)(r0:Except Int (Sto×List Int))(m:Nat)(M0:Mem)(z:RpI):Prop where
 le:z.k<=xs.length
 mle:MLe M0 z.M
 q:wYc ((xs.take z.k).foldl (RX lv gone) r0) z.M z.a z.b z.c z.d z.e z.dd
 own:Own z.v.v z.R 3 1 z.dd.length (Al z.dd)
 few:z.dd.length<=m+z.k
variable{M:Mem}{dd:List Int}{gn:Bool}
theorem wGx{x:It}{t:Sto}{r:Except Int (Sto×List Int)}{a b c d:Sl}(n:¬(gn=false\/x.ref=0))(m:¬0<lv)(k:r=.ok (t,dd))(l:StQ (Ka t x.ref) M a b c d e):wYc (RX lv gn r x) M a b c d e dd:=by
 subst k;have w:RX lv gn (.ok (t,dd)) x=match Ka t x.ref with|.error e=>.error e|.ok t=>.ok (t,dd):=(iN n).trans (iN m)
 rw[w];rcases l with⟨s,f⟩|⟨rfl,u,f,o,j,i,h,g⟩
 ·exact .inl ⟨s,e,by rw[f]⟩
 exact .inr ⟨rfl,u,by rw[f],o,j,i,h,g⟩
variable{xs:List Int}
theorem SM.tk{b o:Nat}(c:∀i u,(Al xs)[i]? =some u->CM M b (o+i) u):SM M (sA b o) (Al xs.dropLast):=.inr ⟨b,o,rfl,λi u a=>c i u (by
 unfold Al at *
 rw[List.getElem?_map]at a⊢
 rw[List.getElem?_dropLast]at a
 split at a
 ·exact a
 cases a)⟩
variable{k:Nat}{r0:Except Int (Sto×List Int)}
theorem LJ{xs:List It}(hk:k<xs.length):(xs.take (k+1)).foldl (RX lv gone) r0=RX lv gone ((xs.take k).foldl (RX lv gone) r0) xs[k]:=by
 rw[List.take_succ_eq_append_getElem hk,List.foldl_append];rfl
theorem wBs(p:Po)(x:V5)(M:Mem)(h:PT5 M x p)(hd:p.dead.length<=1000000)  :
  Sg 78 #[.agg (Bk x p.gen p.root p.next).toArray] M [] λu M' L'=>PoP (wTy p) u M'/\L'=[]:=by
 obtain⟨xb,xw,⟨na,nn,nc⟩,xl,⟨da,dn,dc⟩⟩:=x;obtain⟨_,_,exd,hdc,hds⟩:=id h.d;cases exd;obtain⟨_,_,exn,hnc,hns0⟩:=id h.n;cases exn;try dsimp only at hdc hnc hds hns0
 show SpecL _ _ #[.agg (PP xb.v xw.v (.slice na p.st.now.length nc) xl.v p.gen p.root p.next (.slice da p.dead.length dc)).toArray] M [] _;refine sB func78 ntmps78 ?_;intro W;refine JM λb1 b2=>?_;refine gc (FA p _ M h.pt hd) ?_;rintro _ M1 hM1 rfl;refine gj (λh17=>?_) λh17=>?_
 ·refine gr ?_;exact⟨by unfold wTy;rw[iN h17];exact⟨h17,rfl⟩,rfl⟩
 refine gj (λh23=>?_) λh23=>?_
 ·refine gr ?_;exact⟨by unfold wTy;rw[iP (nN h17),iP (List.eq_nil_of_length_eq_zero (by omega))];exact⟨by decide,rfl⟩,rfl⟩
 refine gh ?_;have hlp:0<p.dead.length:=by omega
 have hne:p.dead≠[]:=List.ne_nil_of_length_pos hlp;obtain⟨hdd,hk8,hk256,hnz,hdl,lv,xs,hrn0,hnd⟩:=Zi (nN h17) hne;have hst:=Fg (nN h17);have hn256:p.st.now.length=256:=hst.2.1.1;have hask:DJ p.st (GR p)=0:=by unfold DJ;rw[iP hst,iN (by omega),iN hnz]
 obtain⟨db,dof,e0,hdx⟩:=hds.open (by intro e;have:=cA length e;rw[Ay,length_nil]at this;omega);subst e0;have hdg:(Al p.dead)[p.dead.length-1]? =some (iL (GR p)):=by unfold Al;rw[List.getElem?_map,hdl];rfl
 obtain⟨nb,no,e0,hnx⟩:=hns0.open (by intro e;have:=cA length e;rw[Ac,length_nil]at this;omega);subst e0;refine gh ?_;refine lq (Aw rfl rfl rfl rfl (by rw[show dof+((p.dead.length:Int)-1).toNat*1=dof+(p.dead.length-1)by omega];exact((hdx _ _ hdg).mono hM1).cj _)) ?_;refine gh ?_;refine lq (Bo (CK rfl rfl rfl (.no _) (.of (v:=p.dead.length-1) rfl (by omega) (by omega)) (.no _) (by omega) (by simp)) (v':=.slice (sA db dof) (p.dead.length-1) dc) (by rw[AV];rfl)) ?_;refine gC (Dm (sA db dof) _ dc (Al p.dead.dropLast) M1 ((SM.tk hdx).mono hM1) (by rw[Ay,List.length_dropLast]) (DH _) (by omega)) ?_;rintro _ M2 R2 hM2 hown;obtain⟨oa,oc,rfl⟩:=hown.form;refine gc (Kn p.st _ (GR p) M2 ((h.mono (hM1.trans hM2)).st)) ?_;rintro _ M3 hM3 hrn;unfold RnPost at hrn;rw[iP hask]at hrn;obtain⟨lv1,ya,yn,yc,e1,rfl,hbn⟩:=BnPost.form hrn;obtain⟨_,hb⟩|⟨_,xs1,hb,rfl,hns⟩:=hbn
 ·rw [hnd]at hb;cases hb
 rw[hnd]at hb;cases hb;refine ga λb7=>?_;refine lq (Aw rfl rfl rfl rfl (((hnx _ _ (by rw[mO];exact B5 (j:=(GR p).toNat) (by omega))).mono (hM1.trans (hM2.trans hM3))).cj _)) ?_;refine gc (NM p.st (GR p) _ M3 ((h.mono (hM1.trans (hM2.trans hM3))).st)) ?_;rintro _ M5 hM5 hpt;obtain⟨qa,qb,qc,qd,er,rfl,hq⟩:=hpt.q;refine ga λb10=>?_;have hlo:Ka p.st (GR p)=.ok (AM p.st (GR p).toNat):=iP hask;obtain⟨_,h8⟩|⟨rfl,t,h8,htk,g1,g2,g3,g4⟩:=hq
 ·rw [hlo]at h8;cases h8
 rw[hlo]at h8;cases h8;obtain⟨gn,hgn⟩:∃gn,gn=rpG p:=⟨_,rfl⟩;obtain⟨_,_,ps,e_,hyc,hys,hyp,hyb⟩:=id hns;cases e_;have hno:=Ar hnd;have hxl:=hno.len;have hrpf:wTy p=wQn p (xs.foldl (RX lv gn) (.ok (AM p.st (GR p).toNat,p.dead.dropLast))):=by unfold wTy;rw[iP (nN h17),iN hne,hrn0,hgn]
 refine gh ?_;refine Cy (α:=RpI) (λz=>[(1,.pointer (sA b1 0)),(2,.pointer (sA b2 0)),(7,.pointer (sA b7 0)),(9,.bool gn),(10,.pointer (sA b10 0)),(11,iL z.e),(62,.slice ya xs.length yc),(63,iL (xs.length:Int)),(64,iL z.k)]) (λz=>z.M) (λz=>(b10,.cells [z.a.v,z.b.v,z.c.v,z.d.v].toArray 28 (0,0))::(b7,.cells [iL lv,.slice ya xs.length yc].toArray 81 (0,0))::(b2,.cells (Bk Gg 0 0 0).toArray 32 (0,0))::(b1,.cells (PP xb.v xw.v (.slice (sA nb no) p.st.now.length nc) xl.v p.gen p.root p.next z.v.v).toArray 32 (0,0))::z.R) (RpH lv gn xs (.ok (AM p.st (GR p).toNat,p.dead.dropLast)) p.dead.dropLast.length M5) (λz=>xs.length-z.k) ⟨0,M5,qa,qb,qc,qd,0,⟨oa,p.dead.length-1,oc⟩,R2,p.dead.dropLast⟩ ⟨zL,mR,.inr ⟨rfl,_,rfl,htk,g1,g2,g3,g4⟩,by show Own _ _ _ _ p.dead.dropLast.length _;rw[List.length_dropLast];exact hown,by show p.dead.dropLast.length<=p.dead.dropLast.length+0;omega⟩ ?_ (hk:=(kC (t:=1) rfl (kC (t:=2) rfl (kC (t:=7) rfl (Keep.ceq (t:=9) rfl (by rw[hgn];rfl) (kC (t:=10) rfl (kC (t:=11) rfl (kC (t:=62) rfl (kC (t:=63) rfl (kC (t:=64) rfl Keep.nil)))))))))) (hs:=λw h=>(show St _ _ ((b10,.cells [qa.v,qb.v,qc.v,qd.v].toArray 28 (0,0))::(b7,.cells [iL lv,.slice ya xs.length yc].toArray 81 (0,0))::(R2++[(b2,.cells (Bk Gg 0 0 0).toArray 32 (0,0)),(b1,.cells (PP xb.v xw.v (.slice (sA nb no) p.st.now.length nc) xl.v p.gen p.root p.next (.slice oa (p.dead.length-1) oc)).toArray 32 (0,0))])) w from h).subC λf=>by simp only[sA,iL,iU,iB,sN,Sl.v,map_append,map_cons,map_nil,sum_append,sum_cons,sum_nil];omega);rintro⟨k,Mk,ua,ub,uc,ud,e,dv,Rd,dd⟩ hI;have hk:=hI.le;try dsimp only at hk⊢
 refine gj (λh65=>?_) λh65=>?_
 ·refine gh ?_;have hk1:k<xs.length:=by omega
  obtain⟨sb,so,e0,hx⟩:=(hys.mono (hM5.trans hI.mle)).open (by intro e;have:=cA length e;rw[Af Ad 5 Ae,length_nil]at this;have h2:=cA length hyp;rw[List.length_map]at h2;omega);subst e0;obtain⟨va,vc,hcl,hvc,hvs⟩:=Av hx hyp (λp hp=>(hyb p hp).mono (hM5.trans hI.mle)) hk1;refine gh ?_;refine lq (A0 (cs:=EL xs[k] va vc) rfl rfl rfl rfl rfl (λi v hv=>(hcl i v hv).cj _)) ?_;refine gA λb13=>?_;refine gj (λh77=>?_) λh77=>?_
  ·refine gh ?_;obtain⟨_,j,hr⟩|⟨h0,_⟩:=id hI.q;rotate_left
   ·exact aD h0 h77
   refine BB ⟨k+1,Mk,ua,ub,uc,ud,e,dv,Rd,dd⟩ ⟨by show k+1<=_;omega,hI.mle,by show wYc ((xs.take (k+1)).foldl _ _) _ _ _ _ _ _ _;rw[LJ hk1];exact .inl ⟨h77,j,wQm hr⟩,hI.own,by show dd.length<=_+(k+1);have:=hI.few;try dsimp only at this;omega⟩ (hs:=λw h=>h.subC λf=>by simp only[sA,iL,iU,iB,sN,map_append,map_cons,map_nil,sum_append,sum_cons,sum_nil];omega)
  refine jp rfl ?_;refine wWn rfl (λh79=>?_) (λh79=>?_)
  ·refine gj (λh85=>?_) λh85=>?_
   ·refine gh ?_;obtain⟨h0,_⟩|⟨_,t,hr,htk,g1,g2,g3,g4⟩:=id hI.q
    ·exact aD (nN h77) h0
    try dsimp only at hr
    refine BB ⟨k+1,Mk,ua,ub,uc,ud,e,dv,Rd,dd⟩ ⟨by show k+1<=_;omega,hI.mle,by show wYc ((xs.take (k+1)).foldl _ _) _ _ _ _ _ _ _;rw[LJ hk1];exact .inr ⟨nN h77,t,by rw[hr];exact iP (.inr h85),htk,g1,g2,g3,g4⟩,hI.own,by show dd.length<=_+(k+1);have:=hI.few;try dsimp only at this;omega⟩ (hs:=λw h=>h.subC λf=>by simp only[sA,iL,iU,iB,sN,map_append,map_cons,map_nil,sum_append,sum_cons,sum_nil];omega)
   refine gj (λh90=>?_) λh90=>?_
   ·refine gh ?_;refine lh (Ab (cs:=[_]) rfl rfl rfl (by rfl) (by rfl) (by rfl)) ?_;rintro _ _ _ ⟨b95,rfl,rfl,rfl⟩;refine lh (AY (R:=Rd) (m:=1) (news:=[iL xs[k].ref]) rfl rfl rfl rfl hI.own rfl (λi v hv=>CJ.loc (by simpa using hv)) rfl (by rfl) (by simp[Value.oneCell']) (by have h1:=hI.few;rw[List.length_dropLast]at h1;try dsimp only at h1 ⊢;omega) (by omega)) ?_;rintro _ _ _ ⟨rfl,R3,rfl,hown3,_⟩;obtain⟨aa,ac,rfl⟩:=hown3.form;refine gh ?_;obtain⟨h0,_⟩|⟨_,t,hr,htk,g1,g2,g3,g4⟩:=id hI.q
    ·exact aD (nN h77) h0
    try dsimp only at hr
    have hng:¬(gn=false\/xs[k].ref=0):=λh=>h.elim (λe=>by rw[h79]at e;cases e) h85;refine BB ⟨k+1,Mk,ua,ub,uc,ud,e,⟨aa,dd.length+1,ac⟩,R3,(dd++[xs[k].ref])⟩ ⟨by show k+1<=_;omega,hI.mle,by show wYc ((xs.take (k+1)).foldl _ _) _ _ _ _ _ _ _;rw[LJ hk1];exact .inr ⟨nN h77,t,by rw[hr];exact(iN hng).trans (iP h90),htk,g1,g2,g3,g4⟩,by show Own _ _ _ _ (dd++[xs[k].ref]).length _;rw[length_append,ND];exact hown3,by show (dd++[xs[k].ref]).length<=_+(k+1);rw[length_append];have:=hI.few;try dsimp only at this;show _+1<=_;omega⟩ (hs:=λw h=>(show St _ _ (R3++[(b95,.cells [iL xs[k].ref].toArray 3 (0,0)),(b13,.cells (EL xs[k] va vc).toArray 162 (0,0)),(b10,.cells [ua.v,ub.v,uc.v,ud.v].toArray 28 (0,0)),(b7,.cells [iL lv,.slice (sA sb so) xs.length yc].toArray 81 (0,0)),(b2,.cells (Bk Gg 0 0 0).toArray 32 (0,0)),(b1,.cells (PP xb.v xw.v (.slice (sA nb no) p.st.now.length nc) xl.v p.gen p.root p.next (.slice aa (dd.length+1) ac)).toArray 32 (0,0))]) w from h).subC λf=>by simp only[sA,iL,iU,iB,sN,Sl.v,map_append,map_cons,map_nil,sum_append,sum_cons,sum_nil];omega)
   refine gh ?_;try dsimp only at hI
   refine gh ?_;obtain⟨h0,_⟩|⟨_,t,hr,htk,g1,g2,g3,g4⟩:=id hI.q
   ·exact aD (nN h77) h0
   try dsimp only at hr
   refine gc (NM t xs[k].ref _ Mk ⟨_,_,_,_,rfl,g1,g2,g3,g4⟩) ?_;rintro _ Ml hMl hpt;obtain⟨qa,qb,qc,qd,e2,rfl,hq⟩:=hpt.q;refine gh ?_;have hng:¬(gn=false\/xs[k].ref=0):=λh=>h.elim (λe=>by rw[h79]at e;cases e) h85;have hql:=wGx hng h90 hr hq;refine BB ⟨k+1,Ml,qa,qb,qc,qd,e2,dv,Rd,dd⟩ ⟨by show k+1<=_;omega,hI.mle.trans hMl,by show wYc ((xs.take (k+1)).foldl _ _) _ _ _ _ _ _ _;rw[LJ hk1];exact hql,hI.own,by show dd.length<=_+(k+1);have:=hI.few;try dsimp only at this;omega⟩ (hs:=λw h=>h.subC λf=>by simp only[sA,iL,iU,iB,sN,map_append,map_cons,map_nil,sum_append,sum_cons,sum_nil];omega)
  refine gh ?_;obtain⟨h0,_⟩|⟨_,t,hr,htk,g1,g2,g3,g4⟩:=id hI.q
  ·exact aD (nN h77) h0
  try dsimp only at hr
  refine BB ⟨k+1,Mk,ua,ub,uc,ud,e,dv,Rd,dd⟩ ⟨by show k+1<=_;omega,hI.mle,by show wYc ((xs.take (k+1)).foldl _ _) _ _ _ _ _ _ _;rw[LJ hk1];exact .inr ⟨nN h77,t,by rw[hr];exact iP (.inl h79),htk,g1,g2,g3,g4⟩,hI.own,by show dd.length<=_+(k+1);have:=hI.few;try dsimp only at this;omega⟩ (hs:=λw h=>h.subC λf=>by simp only[sA,iL,iU,iB,sN,map_append,map_cons,map_nil,sum_append,sum_cons,sum_nil];omega)
 refine gg ?_;have hfx:xs.take k=xs:=List.take_of_length_le (by omega);have hqe:=hI.q;try dsimp only at hqe
 rw[hfx]at hqe;refine gj (λh100=>?_) λh100=>?_
 ·refine gr ?_;obtain⟨_,j,hr⟩|⟨h0,_⟩:=hqe;rotate_left
  ·exact aD h0 h100
  exact⟨by rw[hrpf,hr];exact⟨by decide,rfl⟩,rfl⟩
 refine gg ?_;have hdv:dv.n=dd.length:=by obtain⟨a,c,e⟩:=hI.own.form;exact congrArg (λv=>match v with|Value.slice _ n _=>n|_=>0) e
 refine gj (λh105=>?_) λh105=>?_
 ·refine gr ?_;obtain⟨h0,_⟩|⟨_,t,hr,htk,g1,g2,g3,g4⟩:=hqe
  ·exact aD (nN h100) h0
  exact⟨by rw[hrpf,hr,show wQn p (.ok (t,dd))=.error 9 from iP (by omega)];exact⟨by decide,rfl⟩,rfl⟩
 refine gh ?_;refine BF hI.own (by simp) ?_;intro M9 a9 c9 hM9 e9 h9c h9s;refine gr ?_;obtain⟨h0,_⟩|⟨_,t,hr,htk,g1,g2,g3,g4⟩:=hqe
 ·exact aD (nN h100) h0
 refine⟨?_,rfl⟩;rw[hrpf,hr,show wQn p (.ok (t,dd))=.ok ⟨t,p.gen,p.root,p.next,dd⟩from iN (by omega)];exact⟨⟨ua,ub,uc,ud,⟨dv.a,dv.n,dv.c⟩⟩,rfl,⟨g1.mono hM9,g2.mono hM9,g3.mono hM9,g4.mono hM9,⟨_,_,e9,h9c,h9s⟩⟩⟩
end Go.Proofs.YtjheijhahehnmaaGreatDoor
