/- Walks: reap.Reap. No statement of the seat is proved here. -/
import Derived.Test.YtjheijhahehnmaaGreatDoorZHn
import Derived.Test.YtjheijhahehnmaaGreatDoorZUl
namespace Go.Proofs.YtjheijhahehnmaaGreatDoor
open Go.Proofs.Tryz
open List (cons_append nil_append range replicate map_append length_append length length_nil map_cons map_nil sum_append sum_cons sum_nil)
set_option linter.unusedSimpArgs false
set_option linter.unusedVariables false
set_option linter.unusedSectionVars false
set_option maxHeartbeats 40000000
set_option maxRecDepth 8000
open Go.RowKit
def Yz(q:Po):Except Int Sto->Except Int Po
 |.error e=>.error e
 |.ok t=>.ok ⟨t,q.gen,q.root,q.next,q.dead⟩
variable{M':Mem}{a:Sl}{e:Int}
theorem StQ.po{r:Except Int Sto}{b c d f:Sl}(h:StQ r M' a b c d e)(q:Po)(l:NI M' f.v q.dead):PoQ (Yz q r) M' ⟨a,b,c,d,f⟩ q.gen q.root q.next e:=by
 rcases h with⟨m,rfl⟩|⟨rfl,t,rfl,_,k,j,i,g⟩
 ·exact .inl ⟨m,rfl⟩
 exact .inr ⟨rfl,_,rfl,⟨k,j,i,g,l⟩,rfl,rfl,rfl⟩
theorem StQ.st{r:Except Int Sto}{b c d:Sl}(h:StQ r M' a b c d e){q p:Po}(f:Yz q r=.ok p):p.dead=q.dead/\Av p.st:=by
 rcases h with⟨i,rfl⟩|⟨rfl,t,rfl,g,_⟩
 ·cases f
 cases f;exact⟨rfl,g⟩
def UM(k:Int):Except Int Po->Except Int Po
 |.error e=>.error e
 |.ok q=>Yz q (Kz q.st k)
def ZQ(p:Po)(v:Vo):Except Int (Sto×Int)->Except Int Po
 |.error e=>.error e
 |.ok (t,n)=>UM v.root (Ez ⟨t,p.gen,p.root,p.next,p.dead⟩ ⟨v.id,n,v.frz,v.frm⟩)
def UD(p:Po)(v:Vo)(byF:Sto->Except Int (Sto×Int)):Except Int Sto->Except Int Po
 |.error e=>.error e
 |.ok t=>ZQ p v (byF t)
def DP(p:Po)(v:Vo)(byF:Sto->Except Int (Sto×Int)):Except Int Po:=UD p v byF (KK p.st v.root)
theorem Xx(p:Po)(x:V5)(M:Mem)(h:PT5 M x p)(hd:p.dead.length<=1000000)(v:Vo)(hv:0<=v.id/\v.id<4294967296)(xk xi xo xr:Int)(xv:Value)(G:FuncId)(hgo:Dn prog G=true)(b:Sto->Except Int (Sto×Int))(Y:∀(s:Sto)(sv:Value)(D:Mem),MLe M D->ST D sv s->SpecL prog G #[sv,.int .i64 v.root,.agg #[.int .u8 xk,.int .u32 xi,.int .u32 xo,.int .i64 xr,xv]] D [] λu H L2=>PtPost (b s) u H/\L2=[]):
  SpecL prog 267 #[.agg (Bo x p.gen p.root p.next).toArray,.agg (DA v).toArray,.func (.func G) #[] #[],.agg #[.int .u8 xk,.int .u32 xi,.int .u32 xo,.int .i64 xr,xv]] M [] λu M' L'=>PoP (P7 (DP p v b)) u M'/\L'=[]:=by
 refine sB func267 ntmps267 ?_;intro W;refine ga5 λb4 b5 b7 C B=>?_;refine LU rfl rfl rfl rfl rfl ?_;refine gc (F5 p.st v.root _ M h.st) ?_;rintro _ D P U;obtain⟨qa,qb,qc,qd,er,rfl,e⟩:=U.q;refine gj (λo=>?_) λo=>?_
 ·refine gh ?_;obtain⟨z,c⟩|⟨rfl,_⟩:=e;rotate_left
  ·exact absurd rfl o
  have a:DP p v b=.error er:=by unfold DP;rw[c];rfl
  refine AM (M':=D) (L':=[(B,cE [.int .i64 er] 40),(C,cE (Bo Gz 0 0 0) 32)]) (λw h=>h.fewer (.cons_cons _ (.cons_cons _ (.cons _ (.cons _ (.cons _ .slnil)))))) ?_;refine BU (by simp) (by kernel_rfl) (Cr (DP p v b) Gz 0 0 0 er D (a▸.inl ⟨o,rfl⟩) (λq e=>(by rw[a]at e;cases e)) C B) ?_;rintro M9 _ F ⟨R,g9,T,S,e9,E,rfl⟩;simp only[cons_append,nil_append];refine gr ?_;exact⟨E.p,rfl⟩
 refine gh ?_;obtain⟨z,_⟩|⟨rfl,t,c,ac,g1,g2,g3,g4⟩:=e
 ·exact absurd (Classical.not_not.1 o) z
 have I:ST D (.agg #[qa.v,qb.v,qc.v,qd.v]) t:=⟨_,_,_,_,rfl,g1,g2,g3,g4⟩;refine gh ?_;refine lh (BV rfl rfl rfl rfl rfl hgo (Y t _ D P I)) ?_;rintro _ H _ ⟨aa,_,rfl,⟨N,rfl⟩⟩;simp only[nil_append];obtain⟨ra,rb,rc,rd,n,Q,rfl,f⟩:=N.q;refine gj (λl=>?_) λl=>?_
 ·refine gh ?_;obtain⟨z,j⟩|⟨rfl,_⟩:=f;rotate_left
  ·exact absurd rfl l
  have a:DP p v b=.error Q:=by unfold DP;rw[c];unfold UD;dsimp only;rw[j];rfl
  refine AM (M':=H) (L':=[(B,cE [.int .i64 Q] 40),(C,cE (Bo Gz 0 0 0) 32)]) (λw h=>h.fewer (.cons_cons _ (.cons_cons _ (.cons _ (.cons _ (.cons _ .slnil)))))) ?_;refine BU (by simp) (by kernel_rfl) (Cr (DP p v b) Gz 0 0 0 Q H (a▸.inl ⟨l,rfl⟩) (λq e=>(by rw[a]at e;cases e)) C B) ?_;rintro M9 _ F ⟨R,g9,T,S,e9,E,rfl⟩;simp only[cons_append,nil_append];refine gr ?_;exact⟨E.p,rfl⟩
 refine gh ?_;obtain⟨z,_⟩|⟨rfl,u,j,ab,k1,k2,k3,k4⟩:=f
 ·exact absurd (Classical.not_not.1 l) z
 have X:PT5 H ⟨ra,rb,rc,rd,x.d⟩ ⟨u,p.gen,p.root,p.next,p.dead⟩:=⟨k1,k2,k3,k4,h.d.mono (P.trans aa)⟩;refine gc (Kf ⟨u,p.gen,p.root,p.next,p.dead⟩ ⟨ra,rb,rc,rd,x.d⟩ H X hd ⟨v.id,n,v.frz,v.frm⟩ hv) ?_;rintro _ M3 ad V;obtain⟨y,g,r1,m,e3,rfl,K⟩:=V.q;refine gj (λk=>?_) λk=>?_
 ·refine gh ?_;obtain⟨z,i⟩|⟨rfl,_⟩:=K;rotate_left
  ·exact absurd rfl k
  have a:DP p v b=.error e3:=by unfold DP;rw[c];unfold UD;dsimp only;rw[j];unfold ZQ;dsimp only;rw[i];rfl
  refine AM (M':=M3) (L':=[(B,cE [.int .i64 e3] 40),(C,cE (Bo Gz 0 0 0) 32)]) (λw h=>h.fewer (.cons_cons _ (.cons_cons _ (.cons _ (.cons _ (.cons _ .slnil)))))) ?_;refine BU (by simp) (by kernel_rfl) (Cr (DP p v b) Gz 0 0 0 e3 M3 (a▸.inl ⟨k,rfl⟩) (λq e=>(by rw[a]at e;cases e)) C B) ?_;rintro M9 _ F ⟨R,g9,T,S,e9,E,rfl⟩;simp only[cons_append,nil_append];refine gr ?_;exact⟨E.p,rfl⟩
 refine gh ?_;obtain⟨z,_⟩|⟨rfl,q,i,O,rfl,rfl,rfl⟩:=K
 ·exact absurd (Classical.not_not.1 k) z
 refine gc (Ju q.st v.root _ M3 O.st) ?_;rintro _ M4 Z L;obtain⟨sa,sb,sc,sd,e4,rfl,J⟩:=L.q;refine gh ?_;have a:DP p v b=Yz q (Kz q.st v.root):=by unfold DP;rw[c];unfold UD;dsimp only;rw[j];unfold ZQ;dsimp only;rw[i];rfl
 refine AM (M':=M4) (L':=[(B,cE [.int .i64 e4] 40),(C,cE (Bo ⟨sa,sb,sc,sd,y.d⟩ q.gen q.root q.next) 32)]) (λw h=>h.fewer (.cons_cons _ (.cons_cons _ (.cons _ (.cons _ (.cons _ .slnil)))))) ?_;refine BU (by simp) (by kernel_rfl) (Cr (DP p v b) ⟨sa,sb,sc,sd,y.d⟩ q.gen q.root q.next e4 M4 (a▸J.po q (O.d.mono Z)) (λq2 f=>(by have e1:=J.st (a▸f);have Q:=(LG i).1;exact⟨by rw[e1.1,Q];exact hd,e1.2⟩)) C B) ?_;rintro M9 _ F ⟨R,g9,T,S,e9,E,rfl⟩;simp only[cons_append,nil_append];refine gr ?_;exact⟨E.p,rfl⟩
theorem wWb(p:Po)(x:V5)(M:Mem)(h:PT5 M x p)(hd:p.dead.length<=1000000)(v:Vo)(hv:0<=v.id/\v.id<4294967296)(k:Ky)(H:FuncId)(hgo:Dn prog H=true)(b:Sto->Except Int (Sto×Int))(Z:∀(s:Sto)(sv:Value)(E:Mem),MLe M E->ST E sv s->SpecL prog H #[sv,.int .i64 v.root,.agg (AA k).toArray] E [] λu I L2=>PtPost (b s) u I/\L2=[]):
  SpecL prog 328 #[.agg (Bo x p.gen p.root p.next).toArray,.agg (DA v).toArray,.func (.func H) #[] #[],.agg (AA k).toArray] M [] λu M' L'=>PoP (P7 (DP p v b)) u M'/\L'=[]:=by
 refine sB func328 ntmps328 ?_;intro W;refine ga5 λb4 b5 b7 D C=>?_;refine LU rfl rfl rfl rfl rfl ?_;refine gc (F5 p.st v.root _ M h.st) ?_;rintro _ E Q V;obtain⟨qa,qb,qc,qd,er,rfl,e⟩:=V.q;refine gj (λz=>?_) λz=>?_
 ·refine gh ?_;obtain⟨B,c⟩|⟨rfl,_⟩:=e;rotate_left
  ·exact absurd rfl z
  have a:DP p v b=.error er:=by unfold DP;rw[c];rfl
  refine AM (M':=E) (L':=[(C,cE [.int .i64 er] 40),(D,cE (Bo Gz 0 0 0) 32)]) (λw h=>h.fewer (.cons_cons _ (.cons_cons _ (.cons _ (.cons _ (.cons _ .slnil)))))) ?_;refine BU (by simp) (by kernel_rfl) (Cr (DP p v b) Gz 0 0 0 er E (a▸.inl ⟨z,rfl⟩) (λq e=>(by rw[a]at e;cases e)) D C) ?_;rintro M9 _ G ⟨S,g9,U,T,e9,F,rfl⟩;simp only[cons_append,nil_append];refine gr ?_;exact⟨F.p,rfl⟩
 refine gh ?_;obtain⟨B,_⟩|⟨rfl,t,c,ad,g1,g2,g3,g4⟩:=e
 ·exact absurd (Classical.not_not.1 z) B
 have J:ST E (.agg #[qa.v,qb.v,qc.v,qd.v]) t:=⟨_,_,_,_,rfl,g1,g2,g3,g4⟩;refine gh ?_;refine lh (BV rfl rfl rfl rfl rfl hgo (Z t _ E Q J)) ?_;rintro _ I _ ⟨ab,_,rfl,⟨O,rfl⟩⟩;simp only[nil_append];obtain⟨ra,rb,rc,rd,n,R,rfl,f⟩:=O.q;refine gj (λo=>?_) λo=>?_
 ·refine gh ?_;obtain⟨B,j⟩|⟨rfl,_⟩:=f;rotate_left
  ·exact absurd rfl o
  have a:DP p v b=.error R:=by unfold DP;rw[c];unfold UD;dsimp only;rw[j];rfl
  refine AM (M':=I) (L':=[(C,cE [.int .i64 R] 40),(D,cE (Bo Gz 0 0 0) 32)]) (λw h=>h.fewer (.cons_cons _ (.cons_cons _ (.cons _ (.cons _ (.cons _ .slnil)))))) ?_;refine BU (by simp) (by kernel_rfl) (Cr (DP p v b) Gz 0 0 0 R I (a▸.inl ⟨o,rfl⟩) (λq e=>(by rw[a]at e;cases e)) D C) ?_;rintro M9 _ G ⟨S,g9,U,T,e9,F,rfl⟩;simp only[cons_append,nil_append];refine gr ?_;exact⟨F.p,rfl⟩
 refine gh ?_;obtain⟨B,_⟩|⟨rfl,u,j,ac,k1,k2,k3,k4⟩:=f
 ·exact absurd (Classical.not_not.1 o) B
 have Y:PT5 I ⟨ra,rb,rc,rd,x.d⟩ ⟨u,p.gen,p.root,p.next,p.dead⟩:=⟨k1,k2,k3,k4,h.d.mono (Q.trans ab)⟩;refine gc (Kf ⟨u,p.gen,p.root,p.next,p.dead⟩ ⟨ra,rb,rc,rd,x.d⟩ I Y hd ⟨v.id,n,v.frz,v.frm⟩ hv) ?_;rintro _ M3 ae X;obtain⟨y,g,r1,m,e3,rfl,L⟩:=X.q;refine gj (λl=>?_) λl=>?_
 ·refine gh ?_;obtain⟨B,i⟩|⟨rfl,_⟩:=L;rotate_left
  ·exact absurd rfl l
  have a:DP p v b=.error e3:=by unfold DP;rw[c];unfold UD;dsimp only;rw[j];unfold ZQ;dsimp only;rw[i];rfl
  refine AM (M':=M3) (L':=[(C,cE [.int .i64 e3] 40),(D,cE (Bo Gz 0 0 0) 32)]) (λw h=>h.fewer (.cons_cons _ (.cons_cons _ (.cons _ (.cons _ (.cons _ .slnil)))))) ?_;refine BU (by simp) (by kernel_rfl) (Cr (DP p v b) Gz 0 0 0 e3 M3 (a▸.inl ⟨l,rfl⟩) (λq e=>(by rw[a]at e;cases e)) D C) ?_;rintro M9 _ G ⟨S,g9,U,T,e9,F,rfl⟩;simp only[cons_append,nil_append];refine gr ?_;exact⟨F.p,rfl⟩
 refine gh ?_;obtain⟨B,_⟩|⟨rfl,q,i,P,rfl,rfl,rfl⟩:=L
 ·exact absurd (Classical.not_not.1 l) B
 refine gc (Ju q.st v.root _ M3 P.st) ?_;rintro _ M4 aa N;obtain⟨sa,sb,sc,sd,e4,rfl,K⟩:=N.q;refine gh ?_;have a:DP p v b=Yz q (Kz q.st v.root):=by unfold DP;rw[c];unfold UD;dsimp only;rw[j];unfold ZQ;dsimp only;rw[i];rfl
 refine AM (M':=M4) (L':=[(C,cE [.int .i64 e4] 40),(D,cE (Bo ⟨sa,sb,sc,sd,y.d⟩ q.gen q.root q.next) 32)]) (λw h=>h.fewer (.cons_cons _ (.cons_cons _ (.cons _ (.cons _ (.cons _ .slnil)))))) ?_;refine BU (by simp) (by kernel_rfl) (Cr (DP p v b) ⟨sa,sb,sc,sd,y.d⟩ q.gen q.root q.next e4 M4 (a▸K.po q (P.d.mono aa)) (λq2 f=>(by have e1:=K.st (a▸f);have R:=(LG i).1;exact⟨by rw[e1.1,R];exact hd,e1.2⟩)) D C) ?_;rintro M9 _ G ⟨S,g9,U,T,e9,F,rfl⟩;simp only[cons_append,nil_append];refine gr ?_;exact⟨F.p,rfl⟩
theorem wSk:∀{vs:List Vo}{q:Int}{v:Vo},KD vs q=some v->v.id=q:=λ{vs q v} h=>by
 unfold KD at h
 have:=List.find?_some h
 exact of_decide_eq_true this
theorem G4{p:Po}{q:Int}(h:BG p q=0):(As p q).id=q:=by
 unfold BG As at *;split at h
 ·cases h
 rename_i b r n c;cases a:KD b q with
 |none=>rw[a]at h;cases h
 |some v=>exact wSk a
theorem KQ{p:Po}{q:Int}(h:wSd p q=0):BG p q=0:=by
 unfold wSd at h;split at h
 ·cases h
 exact h
def HW(p:Po)(q:Int)(x:It):Except Int Po:=if wSd p q=0 then (if Cd x=0 then (if x.ref≠0/\RC p x.ref true≠0 then .error 6 else P7 (DP p (As p q) λs=>H2 s (As p q).root x))else .error (Cd x))else .error (wSd p q)
def NH(p:Po)(q:Int)(k:Ky):Except Int Po:=if wSd p q=0 then P7 (DP p (As p q) λs=>MH s (As p q).root k)else .error (wSd p q)
theorem wCv(p:Po)(x:V5)(M:Mem)(h:PT5 M x p)(n:p.dead.length<=1000000)(q:Int)(F:0<=q/\q<4294967296)(a:It)(E:Value)(l:BS M E a.val)(hk:Bj a.key):
  SpecL prog 174 #[.agg (Bo x p.gen p.root p.next).toArray,.int .u32 q,.agg #[.int .u8 a.key.kind,.int .u32 a.key.id,.int .u32 a.key.off,.int .i64 a.ref,E]] M [] λu M' K=>PoP (HW p q a) u M'/\K=[]:=by
 obtain⟨N,L,rfl,H,G⟩:=id l;refine sB func174 ntmps174 ?_;intro W;refine W4 λR Q P=>?_;refine gc (PK p x M h n q) ?_;rintro _ o c rfl;refine gA λO=>?_;refine gj (λb=>?_) λb=>?_
 ·refine gr ?_;exact⟨by unfold HW;rw[if_neg b];exact⟨b,rfl⟩,rfl⟩
 refine gQ (CT a _ o (l.mono c)) ?_;refine gj (λd=>?_) λd=>?_
 ·refine gr ?_;exact⟨by unfold HW;rw[if_pos (Classical.not_not.1 b),if_neg d];exact⟨d,rfl⟩,rfl⟩
 refine gj (λk=>?_) λk=>?_
 ·refine gQ ((KE p x o (h.mono c) n a.ref true).mono λ_ _ _ h=>h.1) ?_;refine gj (λj=>?_) λj=>?_
  ·refine gr ?_;exact⟨by unfold HW;rw[if_pos (Classical.not_not.1 b),if_pos (Classical.not_not.1 d),if_pos ⟨k,j⟩];exact⟨by decide,rfl⟩,rfl⟩
  refine gh ?_;have f:0<=(As p q).id/\(As p q).id<4294967296:=by rw[G4 (KQ (Classical.not_not.1 b))];exact F
  refine gc (Xx p x o (h.mono c) n (As p q) f a.key.kind a.key.id a.key.off a.ref _ 172 (by kernel_rfl) (λs=>H2 s (As p q).root a) (λs w D i z=>H1 s w _ (As p q).root a D z ((l.mono c).mono i) hk)) ?_;rintro _ J C e;obtain⟨y,g,r1,m,I,rfl,B⟩:=e.q;refine gr ?_;exact⟨by unfold HW;rw[if_pos (Classical.not_not.1 b),if_pos (Classical.not_not.1 d),if_neg λh=>j h.2];exact e,rfl⟩
 refine gh ?_;have f:0<=(As p q).id/\(As p q).id<4294967296:=by rw[G4 (KQ (Classical.not_not.1 b))];exact F
 refine gc (Xx p x o (h.mono c) n (As p q) f a.key.kind a.key.id a.key.off a.ref _ 172 (by kernel_rfl) (λs=>H2 s (As p q).root a) (λs w D i z=>H1 s w _ (As p q).root a D z ((l.mono c).mono i) hk)) ?_;rintro _ J C e;obtain⟨y,g,r1,m,I,rfl,B⟩:=e.q;refine gr ?_;exact⟨by unfold HW;rw[if_pos (Classical.not_not.1 b),if_pos (Classical.not_not.1 d),if_neg λh=>k h.1];exact e,rfl⟩
theorem wDb(p:Po)(x:V5)(M:Mem)(h:PT5 M x p)(e:p.dead.length<=1000000)(q:Int)(l:0<=q/\q<4294967296)(k:Ky):
  SpecL prog 285 #[.agg (Bo x p.gen p.root p.next).toArray,.int .u32 q,.agg (AA k).toArray] M [] λu M' B=>PoP (NH p q k) u M'/\B=[]:=by
 refine sB func285 ntmps285 ?_;intro W;refine W4 λG F E=>?_;refine gc (PK p x M h e q) ?_;rintro _ z d rfl;refine gA λD=>?_;refine gj (λa=>?_) λa=>?_
 ·refine gr ?_;exact⟨by unfold NH;rw[if_neg a];exact⟨a,rfl⟩,rfl⟩
 refine gh ?_;have c:0<=(As p q).id/\(As p q).id<4294967296:=by rw[G4 (KQ (Classical.not_not.1 a))];exact l
 refine gc (wWb p x z (h.mono d) e (As p q) c k 184 (by kernel_rfl) (λs=>MH s (As p q).root k) (λs f w o i=>Ty s f (As p q).root k w i)) ?_;rintro _ H n b;obtain⟨y,g,r1,m,C,rfl,j⟩:=b.q;refine gr ?_;exact⟨by unfold NH;rw[if_pos (Classical.not_not.1 a)];exact b,rfl⟩
def EQ(p:Po)(q:Int)(x:It):Option Po:=(HW p q x).toOption
def PO(p:Po)(q:Int)(k:Ky):Option Po:=(NH p q k).toOption
def TL(p:Po)(q:Int)(a b:Ky):Option (List It):=if Lq p q=0 then some (MS p q a b)else none
structure Ino where
 id:Int
 dir:Bool
 links:Int
 size:Int
deriving DecidableEq
@[irreducible] def inoE(x:Ino):Int:=if x.id<1\/1048576<x.id\/x.links<1\/(if x.dir then 1 else 65535)<x.links\/x.size<0\/(if x.dir then 0 else 4096)<x.size then 8 else 0
def FZ(id:Int):Ky:=⟨2,id,0⟩
def PA(k:Nat)(n:Int):List By:=(range k).map λi=>bU (n / 256 ^ i)
def wMd(b:List By):Int:=b.foldl (λn c=>ND .i64 (MK .i64 n 8) (c.toNat:Int)) 0
def Fc(b:List By):Int:=wMd b.reverse
def L4(x:Ino):It:=⟨FZ x.id,0,(if x.dir then 1 else 0)::PA 2 x.links++PA 4 x.size⟩
def S4(n:Int):It:=⟨FZ 0,0,PA 4 n⟩
def Ku(i:It):Option Ino:=
 if i.val.length≠7\/1<(i.val.getD 0 0).toNat\/i.ref≠0\/i.key≠FZ i.key.id then none
 else (λx=>if inoE x=0 then some x else none) ⟨i.key.id,decide (i.val.getD 0 0=1),Fc ((i.val.drop 1).take 2),Fc (i.val.drop 3)⟩
def De(p:Po)(v id:Int):Option Ino:=(TN p v (FZ id)).bind Ku
def FR(p:Po)(v:Int)(x:Ino):Option Po:=if inoE x=0 then EQ p v (L4 x)else none
def NU(p:Po)(id:Int):Option Po:=(TL p id (FZ 0) (FZ 1)).bind λl=>if l=[]then (EQ p id (L4 ⟨1,true,1,0⟩)).bind λq=>EQ q id (S4 2)else none
def Jh(p:Po)(v:Int)(dir:Bool):Option (Po×Int):=(TN p v (FZ 0)).bind λi=>
 if i.val.length≠4\/i.ref≠0\/Fc i.val<2\/1048576<Fc i.val then none
 else (EQ p v (L4 ⟨Fc i.val,dir,1,0⟩)).bind λq=>(EQ q v (S4 (Fc i.val+1))).map λr=>(r,Fc i.val)
def Ji(p:Po)(v id:Int):Option Po:=PO p v (FZ id)
abbrev MN:=List By×Int
def wBa(c:By):Bool:=decide (c.toNat<33\/126<c.toNat\/c.toNat=47)
def wSf(s:List By):Int:=if s.length<1\/8<s.length\/s.any wBa=true then 250 else 0
def RZ(id n:Int):Ky:=⟨3,id,n⟩
def wJj:Nat->List By->Int->Int
 |_,[],a=>a
 |k,c::cs,a=>wJj (k+1) cs (ND .u32 a (MK .u32 (c.toNat:Int) (8*k)))
def ZA(i:It):Option MN:=if i.val.length<5\/i.ref≠0 then none
 else (λx=>if 1<=x/\x<=1048576/\wSf (i.val.drop 4)=0 then some (i.val.drop 4,x)else none) (wJj 0 (i.val.take 4) 0)
def XQ(a:Option (List MN×List Int))(i:It):Option (List MN×List Int):=a.bind λl=>(ZA i).bind λx=>if l.1.any (λy=>decide (y.1=x.1))then none else some (l.1++[x],l.2++[i.key.off])
def DT(p:Po)(v id:Int):Option (List MN×List Int):=(De p v id).bind λx=>if x.dir then (TL p v (RZ id 0) (RZ id 31)).bind λl=>l.foldl XQ (some ([],[]))else none
def E5(l:List MN)(s:List By):Option Nat:=l.findIdx? (λy=>decide (y.1=s))
def ML(p:Po)(v id:Int)(s:List By):Option (List MN×List Int):=(DT p v id).bind λl=>if wSf s=0 then some l else none
def LN(p:Po)(v id:Int)(s:List By):Option Int:=(ML p v id s).bind λl=>(E5 l.1 s).map λk=>(l.1.getD k ([],0)).2
def HI(s:List Int):Nat:=((range s.length).find? λ(n:Nat)=>decide (s.getD n 0≠(n:Int))).getD s.length
def HC(p:Po)(v id:Int)(s:List By)(of:Int):Option Po:=(ML p v id s).bind λl=>
 if (E5 l.1 s).isSome\/32<=l.2.length\/of<1\/1048576<of then none else EQ p v ⟨RZ id (HI l.2),0,PA 4 of++s⟩
def Ey(p:Po)(v id:Int)(s:List By):Option Po:=(ML p v id s).bind λl=>(E5 l.1 s).bind λk=>PO p v (RZ id (l.2.getD k 0))
def Uu(id b:Int):Int:=if id<1\/1048576<id\/b<0\/32<=b then 2 else 0
def HL(id b:Int):Ky:=⟨4,id,b⟩
def DV(p:Po)(v id:Int):Option (List Int):=if Uu id 0=0 then (TL p v (HL id 0) (HL id 31)).map λl=>l.foldl (λr i=>r.set i.key.off.toNat i.ref) (replicate 32 0)else none
def Rx(p:Po)(v id b:Int):Option (List It):=if Uu id b=0 then TL p v (HL id b) (HL id b)else none
def Fg(p:Po)(v id b:Int):Option (List By):=(Rx p v id b).bind λl=>match l with
 |[]=>some (replicate 128 0)
 |i::_=>if i.ref=0 then some (replicate 128 0)else if RC p i.ref false=0 then some (seen p.st i.ref.toNat)else none
def Ek(p:Po)(v id b:Int)(d:List By):Option Po:=if Uu id b=0/\d.length=128 then (Nl p d).toOption.bind λq=>EQ q.1 v ⟨HL id b,q.2,[]⟩else none
def FT(p:Po)(v id b:Int):Option Po:=(Rx p v id b).bind λl=>if l=[]then some p else PO p v (HL id b)
def Hr(p:Po)(q:Int):Except Int Po:=if BG p q=0 then .ok p else .error (BG p q)
variable{M:Mem}
theorem wPo{p:Po}{x:V5}(h:PT5 M x p)(q:Int):PoQ (Hr p q) M x p.gen p.root p.next (BG p q):=by
 unfold Hr;by_cases a:BG p q=0
 ·rw [if_pos a,a];exact .inr ⟨rfl,p,rfl,h,rfl,rfl,rfl⟩
 rw[if_neg a];exact .inl ⟨a,rfl⟩
def Wf:Except Int Po->Except Int Po
 |.error e=>.error e
 |.ok q=>.ok ⟨q.st,q.gen,q.root,q.next+1,q.dead⟩
variable{g r1:Int}{y:V5}
theorem PoQ.nxt{r:Except Int Po}{n e:Int}(h:PoQ r M y g r1 n e):PoQ (Wf r) M y g r1 (n+1) e:=by
 rcases h with⟨c,rfl⟩|⟨rfl,q,rfl,a,rfl,rfl,rfl⟩
 ·exact .inl ⟨c,rfl⟩
 exact .inr ⟨rfl,_,rfl,⟨a.b,a.w,a.n,a.l,a.d⟩,rfl,rfl,rfl⟩
theorem PoQ.dead{r:Except Int Po}{p:Po}{k:Nat}(h:∀q,r=.ok q->q.dead=p.dead)(b:p.dead.length<=k):∀q,r=.ok q->q.dead.length<=k:=λq a=>by rw[h q a];exact b
variable{i:Int}
theorem Tm{p q:Po}(h:Hr p i=.ok q):q=p:=by
 unfold Hr at h;split at h
 ·cases h;rfl
 cases h
variable{k:Int}
theorem wBs{r:Except Int Po}{p q:Po}(a:∀q,r=.ok q->q.dead=p.dead)(h:Hq r k=.ok q):q.dead=p.dead:=by
 unfold Hq at h;split at h
 ·cases h
 split at h
 ·cases h
 cases h;have b:=a _ rfl;exact b
theorem wXf{r:Except Int Po}{p q:Po}{v:Vo}(a:∀q,r=.ok q->q.dead=p.dead)(h:Pj r v=.ok q):q.dead=p.dead/\Av q.st:=by
 unfold Pj at h;split at h
 ·cases h
 obtain⟨c,b⟩:=LG h;exact⟨c.trans (a _ rfl),b⟩
theorem wWy{r:Except Int Po}{p q:Po}(a:∀q,r=.ok q->q.dead=p.dead)(h:Wf r=.ok q):q.dead=p.dead:=by
 unfold Wf at h;split at h
 ·cases h
 cases h;have b:=a _ rfl;exact b
def nvF(p:Po):Nat:=match Cc p.st p.root p.next p.dead with|none=>0|some (vs,_,_)=>vs.length
theorem wJv{p:Po}{q:Int}(h:BG p q=0):AN p=0:=by
 unfold BG at h;unfold AN;split at h
 ·cases h
 rename_i a;rw[a]
variable{s:Sl}
theorem vl_nv{p:Po}(h:∀vs a nodes,Cc p.st p.root p.next p.dead=some (vs,a,nodes)->VS M s vs)(c:AN p=0):s.n=nvF p:=by
 obtain⟨⟨vs,a,nodes⟩,b⟩:=poChk_is.1 c;unfold nvF;rw[b];exact(h vs a nodes b).1
def Vy(p:Po)(q:Int)(frz:Bool):Except Int Po:=if BG p q=0/\(16<=nvF p\/p.next=4294967295)then .error 9 else
 P7 (Pj (Wf (Hq (Hr p q) (As p q).root)) ⟨p.next,(As p q).root,frz,q⟩)
theorem PoQ.nxt2{r:Except Int Po}{n n' e:Int}(h:PoQ r M y g r1 n e)(a:e=0->n'=n+1):PoQ (Wf r) M y g r1 n' e:=by
 have b:=h.nxt;rcases h with⟨c,rfl⟩|⟨rfl,_⟩
 ·exact .inl ⟨c,rfl⟩
 rw[a rfl];exact b
theorem gho_e{r:Except Int Po}{e a:Int}{b:V5}{n:Int}{M':Mem}(h:PoQ r M y g r1 n e)(f:PoQ (Hq r k) M' b g r1 n a)(i:a=0):e=0:=by
 rcases h with⟨j,rfl⟩|⟨rfl,_⟩
 ·rcases f with⟨d,_⟩|⟨_,q,c,_⟩
  ·exact absurd i d
  cases c
 rfl
theorem wSj{p:Po}{q:Int}(c:0<=q/\q<4294967296):0<=(As p q).id/\(As p q).id<4294967296:=by
 by_cases h:BG p q=0
 ·rw [G4 h];exact c
 have:As p q=⟨0,0,false,0⟩:=by
  unfold BG at h;unfold As;split at h
  ·rfl
  rename_i a r n d;cases b:KD a q with
  |none=>rfl
  |some v=>rw[b]at h;exact absurd rfl h
 rw[this];exact⟨by decide,by decide⟩
def wGx(k:Int):Except Int Po->Except Int Po
 |.error e=>.error e
 |.ok q=>Yz q (Kz q.st k)
def wVm(p:Po)(q:Int)(frz:Bool):Except Int Po:=P7 (wGx (As p q).root (Pj (Hq (Hr p q) (As p q).root) ⟨(As p q).id,(As p q).root,frz,(As p q).frm⟩))
theorem wDs(p:Po)(x:V5)(M:Mem)(h:PT5 M x p)(F:p.dead.length<=1000000)(hn:0<=p.next/\p.next<4294967296)(q:Int)(b:Bool):
  SpecL prog 58 #[.agg (Bo x p.gen p.root p.next).toArray,.int .u32 q,.bool b] M [] λu M' L'=>PoP2 .u32 (Lo (Vy p q b) p.next) u M'/\L'=[]:=by
 refine sB func58 ntmps58 ?_;intro W;refine Ah (Af ?_);refine lh (Bt (cs:=[_,_,_,_,_,_,_,_]) rfl rfl rfl rfl) ?_;rintro _ _ _ ⟨l,rfl,rfl,rfl⟩;refine lh (AX rfl rfl) ?_;rintro _ _ _ ⟨o,rfl,rfl,rfl⟩;iterate 2 refine jp rfl ?_
 refine Ai (jT (Ah (Af ?_)));refine lq (HO rfl rfl rfl rfl rfl) ?_;refine lq (BF (cs:=[_,_,_,_,_,_,_,_,_]) rfl rfl rfl (by rfl)) ?_;refine lh (Bt (cs:=[_,_,_,_,_,_,_,_,_]) rfl rfl rfl rfl) ?_;rintro _ _ _ ⟨a,rfl,rfl,rfl⟩;refine jp rfl ?_;refine Ai (jT (Ah ?_));refine Cf (M':=M) (L':=[(a,cE (gcl x p.gen p.root p.next 0) 189),(o,cE (Bo Gz 0 0 0) 32),(l,cE (Bo x p.gen p.root p.next) 32)]) (λ_ h=>h) ?_;refine gC (Q3 p x M h F q a 0) ?_;rintro _ M1 _ j ⟨rfl,rfl⟩;simp only[cons_append,nil_append];refine lh (AX rfl rfl) ?_;rintro _ _ _ ⟨f,rfl,rfl,rfl⟩;refine DE rfl (Ao rfl rfl rfl rfl rfl rfl rfl rfl) ?_;rintro _ _ _ ⟨rfl,rfl⟩;refine Ai (jT ?_);refine FO (α:=Mem) (λ_=>[(1,.int .u32 q),(2,.bool b),(3,pB l),(6,pB o),(9,pB a),(10,pB f)]) (λz=>z) (λ_=>[(f,cE (DA (As p q)) 98),(a,cE (gcl x p.gen p.root p.next (BG p q)) 189),(o,cE (Bo Gz 0 0 0) 32),(l,cE (Bo x p.gen p.root p.next) 32)]) (λz=>MLe M1 z/\¬(BG p q=0/\(16<=nvF p\/p.next=4294967295))) ?_ ?_
 ·rintro G ⟨c,K⟩;try dsimp only at c⊢
  refine Ah ?_;refine Cf (M':=G) (L':=[(f,cE (DA (As p q)) 98),(a,cE (gcl x p.gen p.root p.next (BG p q)) 189),(o,cE (Bo Gz 0 0 0) 32),(l,cE (Bo x p.gen p.root p.next) 32)]) (λ_ h=>h) ?_;refine gC (Q2 (Hr p q) x p.gen p.root p.next (BG p q) G (wPo (h.mono (j.trans c)) q) (PoQ.dead (p:=p) (λ_ h=>by rw[Tm h]) F) (As p q) a) ?_;rintro _ S _ ae ⟨J,R,C,aa,rfl⟩;simp only[cons_append,nil_append];refine gh ?_;refine lq (qP rfl rfl) ?_;refine lq (BY rfl rfl rfl) ?_;refine lq (Ac rfl rfl rfl rfl rfl) ?_;refine lq (Ac rfl rfl rfl rfl rfl) ?_;refine DE rfl (Ao rfl rfl rfl rfl rfl rfl rfl rfl) ?_;rintro _ _ _ ⟨rfl,rfl⟩;refine Ai (jT (Ah ?_));have B:PoQ (Wf (Hq (Hr p q) (As p q).root)) S J p.gen p.root (IntKind.u32.wrap (p.next+1)) R:=C.nxt2 λh0=>(by have h1:=gho_e (wPo (h.mono (j.trans c)) q) C h0;rw[IntKind.wrap_u32];have:¬p.next=4294967295:=λh2=>K ⟨h1,.inr h2⟩;omega);refine Cf (M':=S) (L':=[(a,cE (gcl J p.gen p.root (IntKind.u32.wrap (p.next+1)) R) 189),(f,cE (DA (As p q)) 98),(o,cE (Bo Gz 0 0 0) 32),(l,cE (Bo x p.gen p.root p.next) 32)]) (λ_ h=>h) ?_;refine gC (Tl (Wf (Hq (Hr p q) (As p q).root)) J p.gen p.root (IntKind.u32.wrap (p.next+1)) R S B (PoQ.dead (p:=p) (λ_ h=>wWy (λ_ h=>wBs (p:=p) (λ_ h=>by rw[Tm h]) h) h) F) ⟨p.next,(As p q).root,b,q⟩ hn a) ?_;rintro _ M4 _ ad ⟨T,Y,V,U,Z,N,rfl⟩;simp only[cons_append,nil_append];refine Ai (jT (Ah (Ah ?_)));refine Cf (M':=M4) (L':=[(a,cE (gcl T Y V U Z) 189),(f,cE (DA (As p q)) 98),(o,cE (Bo Gz 0 0 0) 32),(l,cE (Bo x p.gen p.root p.next) 32)]) (λ_ h=>h) ?_;refine gC (Tn _ T Y V U Z M4 N (λ_ h=>(wXf (p:=p) (λ_ h=>wWy (λ_ h=>wBs (p:=p) (λ_ h=>by rw[Tm h]) h) h) h).imp (λe=>by rw[e];exact F) id) a) ?_;rintro _ M5 _ ac ⟨O,rfl⟩;simp only[cons_append,nil_append];obtain⟨y,g,r1,m,e3,rfl,s⟩:=O.q;refine gj (λi=>?_) λi=>?_
  ·refine gr ?_;obtain⟨X,I⟩|⟨rfl,_⟩:=s;rotate_left
   ·exact absurd rfl i
   exact⟨by rw[show Vy p q b=_ from (if_neg K).trans I];exact⟨i,rfl⟩,rfl⟩
  refine gh ?_;refine Gt [3] [1,2,3,4,5] [0,1,2,103,4,5] M5 (_) ([(l,cE (Bo x p.gen p.root p.next) 32)]) ?_;refine gr ?_;obtain⟨X,I⟩|⟨rfl,q5,I,P,rfl,rfl,rfl⟩:=s
  ·exact absurd (Classical.not_not.1 i) X
  exact⟨by rw[show Vy p q b=_ from (if_neg K).trans I];exact⟨y,rfl,P⟩,rfl⟩
 refine gc (Q7 p x M1 (h.mono j) F) ?_;rintro _ G c ⟨sv,rfl,L⟩;refine gg ?_;have D:BG p q=0->AN p=0:=wJv;have E:AN p=0->sv.n=nvF p:=vl_nv L;refine gj (λd=>?_) λd=>?_
 ·refine gt ?_;refine gj (λQ=>?_) λQ=>?_
  ·refine gr ?_;exact⟨by rw[show Vy p q b=.error 9 from if_pos ⟨d,.inl (by rw[<-E (D d)];omega)⟩];exact⟨by decide,rfl⟩,rfl⟩
  refine gj (λk=>?_) λk=>?_
  ·refine gr ?_;exact⟨by rw[show Vy p q b=.error 9 from if_pos ⟨d,.inr k⟩];exact⟨by decide,rfl⟩,rfl⟩
  refine gh ?_;have ab:=E (D d);exact Cx G (Keep.cons (t:=1) rfl (Keep.cons (t:=2) rfl (Keep.cons (t:=3) rfl (Keep.cons (t:=6) rfl (Keep.cons (t:=9) rfl (Keep.cons (t:=10) rfl Keep.nil)))))) ⟨c,by rintro⟨_,H|H⟩;omega;exact k H⟩ (λw h=>h)
 refine gh ?_;exact Cx G (Keep.cons (t:=1) rfl (Keep.cons (t:=2) rfl (Keep.cons (t:=3) rfl (Keep.cons (t:=6) rfl (Keep.cons (t:=9) rfl (Keep.cons (t:=10) rfl Keep.nil)))))) ⟨c,λH=>d H.1⟩ (λw h=>h)
theorem Xa(p:Po)(x:V5)(M:Mem)(h:PT5 M x p)(H:p.dead.length<=1000000)(q:Int)(hq:0<=q/\q<4294967296)(a:Bool):
  SpecL prog 59 #[.agg (Bo x p.gen p.root p.next).toArray,.int .u32 q,.bool a] M [] λu M' L'=>PoP (wVm p q a) u M'/\L'=[]:=by
 refine sB func59 ntmps59 ?_;intro W;refine Ah (Af ?_);refine lh (Bt (cs:=[_,_,_,_,_,_,_,_]) rfl rfl rfl rfl) ?_;rintro _ _ _ ⟨l,rfl,rfl,rfl⟩;refine lh (AX rfl rfl) ?_;rintro _ _ _ ⟨j,rfl,rfl,rfl⟩;refine jp rfl ?_;refine Ai (jT (Ah (Af ?_)));refine lq (HO rfl rfl rfl rfl rfl) ?_;refine lq (BF (cs:=[_,_,_,_,_,_,_,_,_]) rfl rfl rfl (by rfl)) ?_;refine lh (Bt (cs:=[_,_,_,_,_,_,_,_,_]) rfl rfl rfl rfl) ?_;rintro _ _ _ ⟨b,rfl,rfl,rfl⟩;refine jp rfl ?_;refine Ai (jT (Ah ?_));refine Cf (M':=M) (L':=[(b,cE (gcl x p.gen p.root p.next 0) 189),(j,cE (Bo Gz 0 0 0) 32),(l,cE (Bo x p.gen p.root p.next) 32)]) (λ_ h=>h) ?_;refine gC (Q3 p x M h H q b 0) ?_;rintro _ M1 _ Q ⟨rfl,rfl⟩;simp only[cons_append,nil_append];refine lh (AX rfl rfl) ?_;rintro _ _ _ ⟨k,rfl,rfl,rfl⟩;refine DE rfl (Ao rfl rfl rfl rfl rfl rfl rfl rfl) ?_;rintro _ _ _ ⟨rfl,rfl⟩;refine Ai (jT (Ah ?_));refine Cf (M':=M1) (L':=[(k,cE (DA (As p q)) 98),(b,cE (gcl x p.gen p.root p.next (BG p q)) 189),(j,cE (Bo Gz 0 0 0) 32),(l,cE (Bo x p.gen p.root p.next) 32)]) (λ_ h=>h) ?_;refine gC (Q2 (Hr p q) x p.gen p.root p.next (BG p q) M1 (wPo (h.mono Q) q) (PoQ.dead (p:=p) (λ_ h=>by rw[Tm h]) H) (As p q) b) ?_;rintro _ M3 _ ae ⟨S,G,O,aa,rfl⟩;simp only[cons_append,nil_append];refine Ai (jT (Ah (Af ?_)));refine jp rfl ?_;refine lq (Ac rfl rfl rfl rfl rfl) ?_;refine DE rfl (Ao rfl rfl rfl rfl rfl rfl rfl rfl) ?_;rintro _ _ _ ⟨rfl,rfl⟩;refine Ai (jT (Ah ?_));have N:0<=(As p q).id/\(As p q).id<4294967296:=wSj hq;refine Cf (M':=M3) (L':=[(b,cE (gcl S p.gen p.root p.next G) 189),(k,cE (DA ⟨(As p q).id,(As p q).root,a,(As p q).frm⟩) 98),(j,cE (Bo Gz 0 0 0) 32),(l,cE (Bo x p.gen p.root p.next) 32)]) (λ_ h=>h) ?_;refine gC (Tl (Hq (Hr p q) (As p q).root) S p.gen p.root p.next G M3 O (PoQ.dead (p:=p) (λ_ h=>wBs (p:=p) (λ_ h=>by rw[Tm h]) h) H) ⟨(As p q).id,(As p q).root,a,(As p q).frm⟩ N b) ?_;rintro _ K _ ad ⟨L,Z,X,U,J,s,rfl⟩;simp only[cons_append,nil_append];refine Ai (jT ?_);refine FO (α:=V5×Int×Int×Int×Int×Mem) (λ_=>[(6,pB j),(8,pB b)]) (λz=>z.2.2.2.2.2) (λz=>[(b,cE (gcl z.1 z.2.1 z.2.2.1 z.2.2.2.1 z.2.2.2.2.1) 189),(k,cE (DA ⟨(As p q).id,(As p q).root,a,(As p q).frm⟩) 98),(j,cE (Bo Gz 0 0 0) 32),(l,cE (Bo x p.gen p.root p.next) 32)]) (λz=>PoQ (wGx (As p q).root (Pj (Hq (Hr p q) (As p q).root) ⟨(As p q).id,(As p q).root,a,(As p q).frm⟩)) z.2.2.2.2.2 z.1 z.2.1 z.2.2.1 z.2.2.2.1 z.2.2.2.2.1/\∀c,wGx (As p q).root (Pj (Hq (Hr p q) (As p q).root) ⟨(As p q).id,(As p q).root,a,(As p q).frm⟩)=.ok c->c.dead.length<=1000000/\Av c.st) ?_ ?_
 ·rintro ⟨R,Y,V,T,e5,M6⟩ ⟨n,E⟩;try dsimp only at n E⊢
  refine Ah ?_;refine Cf (M':=M6) (L':=[(b,cE (gcl R Y V T e5) 189),(k,cE (DA ⟨(As p q).id,(As p q).root,a,(As p q).frm⟩) 98),(j,cE (Bo Gz 0 0 0) 32),(l,cE (Bo x p.gen p.root p.next) 32)]) (λ_ h=>h) ?_;refine gC (Tn (wGx (As p q).root (Pj (Hq (Hr p q) (As p q).root) ⟨(As p q).id,(As p q).root,a,(As p q).frm⟩)) R Y V T e5 M6 n E b) ?_;rintro _ M7 _ ac ⟨C,rfl⟩;simp only[cons_append,nil_append];obtain⟨y,g,r1,m,e3,rfl,ab⟩:=C.q;refine gr ?_;exact⟨C,rfl⟩
 refine Ah ?_;have P:∀c,Pj (Hq (Hr p q) (As p q).root) ⟨(As p q).id,(As p q).root,a,(As p q).frm⟩=.ok c->c.dead=p.dead/\Av c.st:=λ_ h=>wXf (p:=p) (λ_ h=>wBs (p:=p) (λ_ h=>by rw[Tm h]) h) h;refine Cf (M':=K) (L':=[(b,cE (gcl L Z X U J) 189),(k,cE (DA ⟨(As p q).id,(As p q).root,a,(As p q).frm⟩) 98),(j,cE (Bo Gz 0 0 0) 32),(l,cE (Bo x p.gen p.root p.next) 32)]) (λ_ h=>h) ?_;refine Af ?_;refine jp rfl ?_;refine lq (BY rfl rfl rfl) ?_;refine lq (Ac rfl rfl rfl rfl rfl) ?_;refine lq (Au rfl rfl rfl rfl (CJ.loc rfl)) ?_;refine js rfl (λi=>?_) (λi=>?_)
 ·refine gg ?_;obtain⟨I,_⟩|⟨_,c,e,D,rfl,rfl,rfl⟩:=s
  ·exact absurd i I
  refine Gt [16,19] [1,12,16,17,18,19] [0,1,2,3,4,5,6,7,8,109,10,11,12,13,14,15,116,17,18,119] K (_) ([(k,cE (DA ⟨(As p q).id,(As p q).root,a,(As p q).frm⟩) 98)]) ?_;refine gh ?_;refine dh rfl (hC (Ju c.st (As p q).root _ K D.st)) ?_;rintro _ M5 _ ⟨f,_,rfl,⟨B,rfl⟩⟩;refine⟨f,by simp,?_⟩;simp only[nil_append];obtain⟨sa,sb,sc,sd,e4,rfl,o⟩:=B.q;iterate 3 refine dp rfl rfl ?_
  refine dq rfl (BY rfl rfl rfl) ?_;refine dq rfl (Ac rfl rfl rfl rfl rfl) ?_;refine dq rfl (Ac rfl rfl rfl rfl rfl) ?_;refine Ho rfl rfl (Ao rfl rfl rfl rfl rfl rfl rfl rfl) ?_;rintro _ _ _ ⟨rfl,rfl⟩;refine⟨f,by simp,?_⟩;refine Kn rfl rfl rfl (BY rfl rfl rfl) ?_;refine Kn rfl rfl rfl (Ac rfl rfl rfl rfl rfl) ?_;refine KY rfl rfl (Ao rfl rfl rfl rfl rfl rfl rfl rfl) ?_;rintro _ _ _ ⟨rfl,rfl⟩;refine⟨f,by simp,?_⟩;refine gh ?_;exact Cx (⟨sa,sb,sc,sd,L.d⟩,c.gen,c.root,c.next,e4,M5) (Keep.cons (t:=6) rfl (Keep.cons (t:=8) rfl Keep.nil)) ⟨by show PoQ (wGx (As p q).root (Pj (Hq (Hr p q) (As p q).root) ⟨(As p q).id,(As p q).root,a,(As p q).frm⟩)) _ _ _ _ _ _;rw[e];exact o.po c (D.d.mono f),λq3 F=>(by rw[e]at F;have G:=o.st (q:=c) F;have J:=(P c e).1;exact⟨by rw[G.1,J];exact H,G.2⟩)⟩ (λw h=>h)
 refine gg ?_;obtain⟨I,e⟩|⟨I,_⟩:=s;rotate_left
 ·exact absurd I i
 exact Cx (L,Z,X,U,J,K) (Keep.cons (t:=6) rfl (Keep.cons (t:=8) rfl Keep.nil)) ⟨.inl ⟨i,by rw[e];rfl⟩,λq3 F=>(by rw[e]at F;cases F)⟩ (λw h=>h)
def UnQ(r:Except Int Po)(M':Mem)(L':Lc)(y:V5)(g r1 n e:Int):Prop:=(e≠0/\r=.error e/\L'=[])\/(e=0/\∃q,r=.ok q/\Av q.st/\LS M' y.b.v q.st.blocks/\WS M' y.w.v q.st.waits/\BS M' y.n.v q.st.now/\BS M' y.l.v q.st.last/\Own y.d.v L' 3 1 q.dead.length (Al q.dead)/\g=q.gen/\r1=q.root/\n=q.next)
theorem Zk(p:Po)(x:V5)(M:Mem)(h:PT5 M x p)(I:p.dead.length<=1000000)(q:Int):
  SpecL prog 115 #[.agg (Bo x p.gen p.root p.next).toArray,.int .u32 q] M [] λu M' U=>∃(y:V5)(g r1 n e:Int),u=.tuple #[.agg (Bo y g r1 n).toArray,.int .i64 e]/\UnQ (Vm p q) M' U y g r1 n e:=by
 refine sB func115 ntmps115 ?_;intro W;refine Ke λR Y=>?_;refine gc (Dx p x M h I q) ?_;rintro _ T k rfl;refine gA λX=>?_;refine gj (λc=>?_) λc=>?_
 ·refine gh ?_;refine zd ([]) rfl ?_;exact⟨Gz,0,0,0,_,rfl,.inl ⟨c,by unfold Vm;rw[if_neg c],rfl⟩⟩
 refine gc (Ty p.st _ p.root (wGb q) T ((h.mono k).st)) ?_;rintro _ K w s;obtain⟨F,E,D,C,n,V,rfl,H⟩:=s.q;refine gA λQ=>?_;refine gj (λf=>?_) λf=>?_
 ·refine gh ?_;refine zd ([]) rfl ?_;obtain⟨J,b⟩|⟨rfl,_⟩:=H;rotate_left
  ·exact absurd rfl f
  exact⟨Gz,0,0,0,_,rfl,.inl ⟨f,by unfold Vm;rw[if_pos (Classical.not_not.1 c),b],rfl⟩⟩
 refine gh ?_;obtain⟨J,_⟩|⟨rfl,t,b,o,P,O,N,L⟩:=H
 ·exact absurd (Classical.not_not.1 f) J
 refine Gt [6,8,10] [1,6,7,8,9,10] [0,1,2,3,5,104,106,7,108,9,110] K ([(Q,.cells #[F.v,E.v,D.v,C.v] 28 (0,0)),(R,cE (Bo x p.gen p.root p.next) 32)]) ([]) ?_;refine gh ?_;obtain⟨m,l,exd,G,j⟩:=h.d;refine dh rfl (BV rfl rfl rfl rfl rfl (by kernel_rfl) (by rw[exd];exact Du m _ l (Al p.dead) K (j.mono (k.trans w)) (Ay _) (DU _) I)) ?_;rintro _ Z _ ⟨a,S,rfl,i⟩;refine⟨a,by simp,?_⟩;obtain⟨B,z,rfl⟩:=i.form;refine Ho rfl rfl (Ao rfl rfl rfl rfl rfl rfl rfl rfl) ?_;rintro _ _ _ ⟨rfl,rfl⟩;refine⟨a,by simp,?_⟩;refine Kn rfl rfl rfl (Ac rfl rfl rfl rfl rfl) ?_;refine KY rfl rfl (Ao rfl rfl rfl rfl rfl rfl rfl rfl) ?_;rintro _ _ _ ⟨rfl,rfl⟩;refine⟨a,by simp,?_⟩;refine Kn rfl rfl rfl (Ac rfl rfl rfl rfl rfl) ?_;refine KY rfl rfl (Ao rfl rfl rfl rfl rfl rfl rfl rfl) ?_;rintro _ _ _ ⟨rfl,rfl⟩;refine⟨a,by simp,?_⟩;refine gh ?_;refine zd (S) rfl ?_;exact⟨⟨F,E,D,C,⟨B,p.dead.length,z⟩⟩,_,_,_,0,rfl,.inr ⟨rfl,⟨t,p.gen,n,p.next,p.dead⟩,by unfold Vm;rw[if_pos (Classical.not_not.1 c),b],o,P.mono a,O.mono a,N.mono a,L.mono a,i,rfl,rfl,rfl⟩⟩
def rdeN(p:Po)(k:Int):Except Int Po->Except Int Po
 |.error e=>.error e
 |.ok q=>.ok ⟨q.st,q.gen,q.root,q.next,q.dead++[k]⟩
def VR(p:Po)(q:Int):Except Int Po:=if BG p q=0 then (if 19<p.dead.length then .error 9 else rdeN p (As p q).root (Vm p q))else .error (BG p q)
theorem N1(xs:List Int)(k:Int):Al (xs++[k])=Al xs++[.int .i64 k]:=by unfold Al;rw[map_append];rfl
variable{i:Int}
theorem wJy{p q:Po}(h:Vm p i=.ok q):q.dead=p.dead:=by
 unfold Vm at h;split at h
 ·split at h
  ·cases h
  cases h;rfl
 cases h
theorem wEj(p:Po)(x:V5)(M:Mem)(h:PT5 M x p)(H:p.dead.length<=1000000)(q:Int):
  SpecL prog 61 #[.agg (Bo x p.gen p.root p.next).toArray,.int .u32 q] M [] λu M' L'=>PoP (VR p q) u M'/\L'=[]:=by
 refine sB func61 ntmps61 ?_;intro W;refine Ke λb2 b4=>?_;refine gc (Dx p x M h H q) ?_;rintro _ M1 D rfl;refine gA λb6=>?_;refine gj (λf=>?_) λf=>?_
 ·refine gr ?_;exact⟨by unfold VR;rw[if_neg f];exact⟨f,rfl⟩,rfl⟩
 refine gg ?_;have O:x.d.n=p.dead.length:=by obtain⟨a,c,e,_⟩:=h.d;exact congrArg (λv=>match v with|Value.slice _ n _=>n|_=>0) e
 refine gj (λG=>?_) λG=>?_
 ·refine gr ?_;exact⟨by unfold VR;rw[if_pos (Classical.not_not.1 f),if_pos (by omega)];exact⟨by decide,rfl⟩,rfl⟩
 refine gC (Zk p x M1 (h.mono D) H q) ?_;rintro _ M2 Y P ⟨y,g,r1,n,e2,rfl,z⟩;refine gj (λs=>?_) λs=>?_
 ·refine gr ?_;obtain⟨I,k,_⟩|⟨rfl,_⟩:=z;rotate_left
  ·exact absurd rfl s
  exact⟨by unfold VR;rw[if_pos (Classical.not_not.1 f),if_neg (by omega),k];exact⟨s,rfl⟩,rfl⟩
 refine gh ?_;obtain⟨I,_⟩|⟨rfl,C,k,N,U,T,S,Q,B,rfl,rfl,rfl⟩:=z
 ·exact absurd (Classical.not_not.1 s) I
 refine gh ?_;refine lh (Ab (cs:=[_]) rfl rfl rfl (by rfl) (by rfl) (by rfl)) ?_;rintro _ _ _ ⟨X,rfl,rfl,rfl⟩;refine lh (AY (R:=Y) (m:=1) (news:=[.int .i64 (As p q).root]) rfl rfl rfl rfl B rfl (λi v L=>CJ.loc (by simpa using L)) rfl (by rfl) (by simp[Value.oneCell']) (by rw[wJy k];omega) (by omega)) ?_;rintro _ _ _ ⟨rfl,R3,rfl,j,_⟩;obtain⟨K,J,rfl⟩:=j.form;refine gh ?_;refine BK j (by simp) ?_;intro Z a5 c5 o V F E;cases V;refine gr ?_;refine⟨?_,rfl⟩;unfold VR;rw[if_pos (Classical.not_not.1 f),if_neg (by omega),k];refine⟨⟨y.b,y.w,y.n,y.l,⟨K,C.dead.length+1,J⟩⟩,rfl,⟨U.mono o,T.mono o,S.mono o,Q.mono o,⟨K,J,?_,?_,?_⟩⟩⟩
 ·show Value.slice _ _ _=Value.slice _ (C.dead++[(As p q).root]).length _;rw[length_append];rfl
 ·show (C.dead++[(As p q).root]).length<=_;rw[length_append];exact F
 show SM Z _ (Al (C.dead++[(As p q).root]));rw[N1];exact E
def SO(lv:Int)(gone:Bool)(a:Except Int (Sto×List Int))(x:It):Except Int (Sto×List Int):=match a with
 |.error e=>.error e
 |.ok (s,d)=>if gone=false\/x.ref=0 then .ok (s,d)else if 0<lv then .ok (s,d++[x.ref])else match Kx s x.ref with
  |.error e=>.error e
  |.ok t=>.ok (t,d)
variable{a:Except Int (Sto×List Int)}{e lv:Int}{gone:Bool}
theorem wTf{x:It}(h:a=.error e):SO lv gone a x=.error e:=by subst h;rfl
def wTg(p:Po):Except Int (Sto×List Int)->Except Int Po
 |.error _=>.error 8
 |.ok (s,d)=>if 40<d.length then .error 9 else .ok ⟨s,p.gen,p.root,p.next,d⟩
def Hc(p:Po):Int:=p.dead.getLast?.getD 0
def rpG(p:Po):Bool:=decide (((p.st.now.getD (Hc p).toNat 0).toNat:Int)=1)
def rpN(p:Po):Int×List It:=(Ak p.st (Hc p).toNat).getD (0,[])
def wWt(p:Po):Except Int Po:=if AN p=0 then (if p.dead=[]then .error 6 else wTg p ((rpN p).2.foldl (SO (rpN p).1 (rpG p)) (.ok (AO p.st (Hc p).toNat,p.dead.dropLast))))else .error (AN p)
def YQ(r:Except Int (Sto×List Int))(M':Mem)(a b c d:Sl)(e:Int)(dd:List Int):Prop:=(e≠0/\∃k,r=.error k)\/(e=0/\∃t,r=.ok (t,dd)/\Av t/\LS M' a.v t.blocks/\WS M' b.v t.waits/\BS M' c.v t.now/\BS M' d.v t.last)
theorem wAi{p:Po}(h:AN p=0)(d:p.dead≠[]):p.dead=p.dead.dropLast++[Hc p]/\8<=Hc p/\Hc p<256/\¬p.st.now.getD (Hc p).toNat 0=0/\p.dead[p.dead.length-1]? =some (Hc p)/\∃lv xs,rpN p=(lv,xs)/\Ak p.st (Hc p).toNat=some (lv,xs):=by
 have g:p.dead=p.dead.dropLast++[Hc p]:=by
  unfold Hc;rw[List.getLast?_eq_some_getLast d];exact(List.dropLast_concat_getLast d).symm
 obtain⟨⟨m,f,c⟩,a⟩:=poChk_is.1 h;unfold Cc at a;split at a
 ·split at a
  ·cases a
  split at a
  ·cases a
  split at a
  ·cases a
  rename_i k;have l:Hc p∈p.dead:=by rw[g];simp
  obtain⟨j,i,lv,xs,_,b,_⟩:=LE (KF k (Hc p) (by unfold Ec;exact List.mem_append_left _ (List.mem_cons_of_mem _ l)));refine⟨g,j,i,λe=>?_,by rw[<-List.getLast?_eq_getElem?];unfold Hc;rw[List.getLast?_eq_some_getLast d];rfl,lv,xs,?_,b⟩
  ·unfold Ak at b;rw[if_pos e]at b;cases b
  unfold rpN;rw[b];rfl
 cases a
structure RpI where
 k:Nat
 M:Mem
 a:Sl
 b:Sl
 c:Sl
 d:Sl
 e:Int
 v:Sl
 R:Lc
 dd:List Int
structure RpH(lv:Int)(gone:Bool)(xs:List It)(r0:Except Int (Sto×List Int))(m:Nat)(M0:Mem)(z:RpI):Prop where
 le:z.k<=xs.length
 mle:MLe M0 z.M
 q:YQ ((xs.take z.k).foldl (SO lv gone) r0) z.M z.a z.b z.c z.d z.e z.dd
 own:Own z.v.v z.R 3 1 z.dd.length (Al z.dd)
 few:z.dd.length<=m+z.k
variable{M:Mem}{dd:List Int}{gn:Bool}
theorem wKp{x:It}{t:Sto}{r:Except Int (Sto×List Int)}{a b c d:Sl}(n:¬(gn=false\/x.ref=0))(m:¬0<lv)(k:r=.ok (t,dd))(l:StQ (Kx t x.ref) M a b c d e):YQ (SO lv gn r x) M a b c d e dd:=by
 subst k;have w:SO lv gn (.ok (t,dd)) x=match Kx t x.ref with|.error e=>.error e|.ok t=>.ok (t,dd):=(if_neg n).trans (if_neg m)
 rw[w];rcases l with⟨s,f⟩|⟨rfl,u,f,o,j,i,h,g⟩
 ·exact .inl ⟨s,e,by rw[f]⟩
 exact .inr ⟨rfl,u,by rw[f],o,j,i,h,g⟩
variable{xs:List Int}
theorem SM.tk{b o:Nat}(c:∀i u,(Al xs)[i]? =some u->CM M b (o+i) u):SM M (some ⟨b,o,none⟩) (Al xs.dropLast):=.inr ⟨b,o,rfl,λi u a=>c i u (by
 unfold Al at *
 rw[List.getElem?_map]at a⊢
 rw[List.getElem?_dropLast]at a
 split at a
 ·exact a
 cases a)⟩
variable{k:Nat}{r0:Except Int (Sto×List Int)}
theorem MA{xs:List It}(hk:k<xs.length):(xs.take (k+1)).foldl (SO lv gone) r0=SO lv gone ((xs.take k).foldl (SO lv gone) r0) xs[k]:=by
 rw[List.take_succ_eq_append_getElem hk,List.foldl_append];rfl
theorem wEg(p:Po)(x:V5)(M:Mem)(h:PT5 M x p)(hd:p.dead.length<=1000000)  :
  SpecL prog 78 #[.agg (Bo x p.gen p.root p.next).toArray] M [] λu M' L'=>PoP (wWt p) u M'/\L'=[]:=by
 obtain⟨xb,xw,⟨na,nn,nc⟩,xl,⟨da,dn,dc⟩⟩:=x;obtain⟨_,_,exd,hdc,hds⟩:=id h.d;cases exd;obtain⟨_,_,exn,hnc,hns0⟩:=id h.n;cases exn;try dsimp only at hdc hnc hds hns0
 show SpecL _ _ #[.agg (Qh xb.v xw.v (.slice na p.st.now.length nc) xl.v p.gen p.root p.next (.slice da p.dead.length dc)).toArray] M [] _;refine sB func78 ntmps78 ?_;intro W;refine Ke λb1 b2=>?_;refine gc (FS p _ M h.pt hd) ?_;rintro _ M1 hM1 rfl;refine gj (λh17=>?_) λh17=>?_
 ·refine gr ?_;exact⟨by unfold wWt;rw[if_neg h17];exact⟨h17,rfl⟩,rfl⟩
 refine gj (λh23=>?_) λh23=>?_
 ·refine gr ?_;exact⟨by unfold wWt;rw[if_pos (Classical.not_not.1 h17),if_pos (List.eq_nil_of_length_eq_zero (by omega))];exact⟨by decide,rfl⟩,rfl⟩
 refine gh ?_;have hlp:0<p.dead.length:=by omega
 have hne:p.dead≠[]:=List.ne_nil_of_length_pos hlp;obtain⟨hdd,hk8,hk256,hnz,hdl,lv,xs,hrn0,hnd⟩:=wAi (Classical.not_not.1 h17) hne;have hst:=EY (Classical.not_not.1 h17);have hn256:p.st.now.length=256:=hst.2.1.1;have hask:DW p.st (Hc p)=0:=by unfold DW;rw[if_pos hst,if_neg (by omega),if_neg hnz]
 obtain⟨db,dof,e0,hdx⟩:=hds.open (by intro e;have:=congrArg length e;rw[Ay,length_nil]at this;omega);subst e0;have hdg:(Al p.dead)[p.dead.length-1]? =some (.int .i64 (Hc p)):=by unfold Al;rw[List.getElem?_map,hdl];rfl
 obtain⟨nb,no,e0,hnx⟩:=hns0.open (by intro e;have:=congrArg length e;rw[Ad,length_nil]at this;omega);subst e0;refine gh ?_;refine lq (Au rfl rfl rfl rfl (by rw[show dof+((p.dead.length:Int)-1).toNat*1=dof+(p.dead.length-1)by omega];exact((hdx _ _ hdg).mono hM1).cj _)) ?_;refine gh ?_;refine lq (Bh (CL rfl rfl rfl (.no _) (.of (v:=p.dead.length-1) rfl (by omega) (by omega)) (.no _) (by omega) (by simp)) (v':=.slice (some ⟨db,dof,none⟩) (p.dead.length-1) dc) (by rw[AU];rfl)) ?_;refine gC (Du (some ⟨db,dof,none⟩) _ dc (Al p.dead.dropLast) M1 ((SM.tk hdx).mono hM1) (by rw[Ay,List.length_dropLast]) (DU _) (by omega)) ?_;rintro _ M2 R2 hM2 hown;obtain⟨oa,oc,rfl⟩:=hown.form;refine gc (KL p.st _ (Hc p) M2 ((h.mono (hM1.trans hM2)).st)) ?_;rintro _ M3 hM3 hrn;unfold RnPost at hrn;rw[if_pos hask]at hrn;obtain⟨lv1,ya,yn,yc,e1,rfl,hbn⟩:=BnPost.form hrn;obtain⟨_,hb⟩|⟨_,xs1,hb,rfl,hns⟩:=hbn
 ·rw [hnd]at hb;cases hb
 rw[hnd]at hb;cases hb;refine ga λb7=>?_;refine lq (Au rfl rfl rfl rfl (((hnx _ _ (by rw[Nat.mul_one];exact Ca (j:=(Hc p).toNat) (by omega))).mono (hM1.trans (hM2.trans hM3))).cj _)) ?_;refine gc (Pa p.st (Hc p) _ M3 ((h.mono (hM1.trans (hM2.trans hM3))).st)) ?_;rintro _ M5 hM5 hpt;obtain⟨qa,qb,qc,qd,er,rfl,hq⟩:=hpt.q;refine ga λb10=>?_;have hlo:Kx p.st (Hc p)=.ok (AO p.st (Hc p).toNat):=if_pos hask;obtain⟨_,h8⟩|⟨rfl,t,h8,htk,g1,g2,g3,g4⟩:=hq
 ·rw [hlo]at h8;cases h8
 rw[hlo]at h8;cases h8;obtain⟨gn,hgn⟩:∃gn,gn=rpG p:=⟨_,rfl⟩;obtain⟨_,_,ps,e_,hyc,hys,hyp,hyb⟩:=id hns;cases e_;have hno:=Ar hnd;have hxl:=hno.len;have hrpf:wWt p=wTg p (xs.foldl (SO lv gn) (.ok (AO p.st (Hc p).toNat,p.dead.dropLast))):=by unfold wWt;rw[if_pos (Classical.not_not.1 h17),if_neg hne,hrn0,hgn]
 refine gh ?_;refine CC (α:=RpI) (λz=>[(1,.pointer (some ⟨b1,0,none⟩)),(2,.pointer (some ⟨b2,0,none⟩)),(7,.pointer (some ⟨b7,0,none⟩)),(9,.bool gn),(10,.pointer (some ⟨b10,0,none⟩)),(11,.int .i64 z.e),(62,.slice ya xs.length yc),(63,.int .i64 (xs.length:Int)),(64,.int .i64 z.k)]) (λz=>z.M) (λz=>(b10,.cells [z.a.v,z.b.v,z.c.v,z.d.v].toArray 28 (0,0))::(b7,.cells [.int .i64 lv,.slice ya xs.length yc].toArray 81 (0,0))::(b2,.cells (Bo Gz 0 0 0).toArray 32 (0,0))::(b1,.cells (Qh xb.v xw.v (.slice (some ⟨nb,no,none⟩) p.st.now.length nc) xl.v p.gen p.root p.next z.v.v).toArray 32 (0,0))::z.R) (RpH lv gn xs (.ok (AO p.st (Hc p).toNat,p.dead.dropLast)) p.dead.dropLast.length M5) (λz=>xs.length-z.k) ⟨0,M5,qa,qb,qc,qd,0,⟨oa,p.dead.length-1,oc⟩,R2,p.dead.dropLast⟩ ⟨Nat.zero_le _,MLe.refl _,.inr ⟨rfl,_,rfl,htk,g1,g2,g3,g4⟩,by show Own _ _ _ _ p.dead.dropLast.length _;rw[List.length_dropLast];exact hown,by show p.dead.dropLast.length<=p.dead.dropLast.length+0;omega⟩ ?_ (hk:=(Keep.cons (t:=1) rfl (Keep.cons (t:=2) rfl (Keep.cons (t:=7) rfl (Keep.ceq (t:=9) rfl (by rw[hgn];rfl) (Keep.cons (t:=10) rfl (Keep.cons (t:=11) rfl (Keep.cons (t:=62) rfl (Keep.cons (t:=63) rfl (Keep.cons (t:=64) rfl Keep.nil)))))))))) (hs:=λw h=>(show St _ _ ((b10,.cells [qa.v,qb.v,qc.v,qd.v].toArray 28 (0,0))::(b7,.cells [.int .i64 lv,.slice ya xs.length yc].toArray 81 (0,0))::(R2++[(b2,.cells (Bo Gz 0 0 0).toArray 32 (0,0)),(b1,.cells (Qh xb.v xw.v (.slice (some ⟨nb,no,none⟩) p.st.now.length nc) xl.v p.gen p.root p.next (.slice oa (p.dead.length-1) oc)).toArray 32 (0,0))])) w from h).subC λf=>by simp only[Sl.v,map_append,map_cons,map_nil,sum_append,sum_cons,sum_nil];omega);rintro⟨k,Mk,ua,ub,uc,ud,e,dv,Rd,dd⟩ hI;have hk:=hI.le;try dsimp only at hk⊢
 refine gj (λh65=>?_) λh65=>?_
 ·refine gh ?_;have hk1:k<xs.length:=by omega
  obtain⟨sb,so,e0,hx⟩:=(hys.mono (hM5.trans hI.mle)).open (by intro e;have:=congrArg length e;rw[Aj Ae 5 Ag,length_nil]at this;have h2:=congrArg length hyp;rw[List.length_map]at h2;omega);subst e0;obtain⟨va,vc,hcl,hvc,hvs⟩:=Aw hx hyp (λp hp=>(hyb p hp).mono (hM5.trans hI.mle)) hk1;refine gh ?_;refine lq (A1 (cs:=E1 xs[k] va vc) rfl rfl rfl rfl rfl (λi v hv=>(hcl i v hv).cj _)) ?_;refine gA λb13=>?_;refine gj (λh77=>?_) λh77=>?_
  ·refine gh ?_;obtain⟨_,j,hr⟩|⟨h0,_⟩:=id hI.q;rotate_left
   ·exact absurd h0 h77
   refine BD ⟨k+1,Mk,ua,ub,uc,ud,e,dv,Rd,dd⟩ ⟨by show k+1<=_;omega,hI.mle,by show YQ ((xs.take (k+1)).foldl _ _) _ _ _ _ _ _ _;rw[MA hk1];exact .inl ⟨h77,j,wTf hr⟩,hI.own,by show dd.length<=_+(k+1);have:=hI.few;try dsimp only at this;omega⟩ (hs:=λw h=>h.subC λf=>by simp only[map_append,map_cons,map_nil,sum_append,sum_cons,sum_nil];omega)
  refine jp rfl ?_;refine LZ rfl (λh79=>?_) (λh79=>?_)
  ·refine gj (λh85=>?_) λh85=>?_
   ·refine gh ?_;obtain⟨h0,_⟩|⟨_,t,hr,htk,g1,g2,g3,g4⟩:=id hI.q
    ·exact absurd (Classical.not_not.1 h77) h0
    try dsimp only at hr
    refine BD ⟨k+1,Mk,ua,ub,uc,ud,e,dv,Rd,dd⟩ ⟨by show k+1<=_;omega,hI.mle,by show YQ ((xs.take (k+1)).foldl _ _) _ _ _ _ _ _ _;rw[MA hk1];exact .inr ⟨Classical.not_not.1 h77,t,by rw[hr];exact if_pos (.inr h85),htk,g1,g2,g3,g4⟩,hI.own,by show dd.length<=_+(k+1);have:=hI.few;try dsimp only at this;omega⟩ (hs:=λw h=>h.subC λf=>by simp only[map_append,map_cons,map_nil,sum_append,sum_cons,sum_nil];omega)
   refine gj (λh90=>?_) λh90=>?_
   ·refine gh ?_;refine lh (Ab (cs:=[_]) rfl rfl rfl (by rfl) (by rfl) (by rfl)) ?_;rintro _ _ _ ⟨b95,rfl,rfl,rfl⟩;refine lh (AY (R:=Rd) (m:=1) (news:=[.int .i64 xs[k].ref]) rfl rfl rfl rfl hI.own rfl (λi v hv=>CJ.loc (by simpa using hv)) rfl (by rfl) (by simp[Value.oneCell']) (by have h1:=hI.few;rw[List.length_dropLast]at h1;try dsimp only at h1 ⊢;omega) (by omega)) ?_;rintro _ _ _ ⟨rfl,R3,rfl,hown3,_⟩;obtain⟨aa,ac,rfl⟩:=hown3.form;refine gh ?_;obtain⟨h0,_⟩|⟨_,t,hr,htk,g1,g2,g3,g4⟩:=id hI.q
    ·exact absurd (Classical.not_not.1 h77) h0
    try dsimp only at hr
    have hng:¬(gn=false\/xs[k].ref=0):=λh=>h.elim (λe=>by rw[h79]at e;cases e) h85;refine BD ⟨k+1,Mk,ua,ub,uc,ud,e,⟨aa,dd.length+1,ac⟩,R3,(dd++[xs[k].ref])⟩ ⟨by show k+1<=_;omega,hI.mle,by show YQ ((xs.take (k+1)).foldl _ _) _ _ _ _ _ _ _;rw[MA hk1];exact .inr ⟨Classical.not_not.1 h77,t,by rw[hr];exact(if_neg hng).trans (if_pos h90),htk,g1,g2,g3,g4⟩,by show Own _ _ _ _ (dd++[xs[k].ref]).length _;rw[length_append,N1];exact hown3,by show (dd++[xs[k].ref]).length<=_+(k+1);rw[length_append];have:=hI.few;try dsimp only at this;show _+1<=_;omega⟩ (hs:=λw h=>(show St _ _ (R3++[(b95,.cells [.int .i64 xs[k].ref].toArray 3 (0,0)),(b13,.cells (E1 xs[k] va vc).toArray 162 (0,0)),(b10,.cells [ua.v,ub.v,uc.v,ud.v].toArray 28 (0,0)),(b7,.cells [.int .i64 lv,.slice (some ⟨sb,so,none⟩) xs.length yc].toArray 81 (0,0)),(b2,.cells (Bo Gz 0 0 0).toArray 32 (0,0)),(b1,.cells (Qh xb.v xw.v (.slice (some ⟨nb,no,none⟩) p.st.now.length nc) xl.v p.gen p.root p.next (.slice aa (dd.length+1) ac)).toArray 32 (0,0))]) w from h).subC λf=>by simp only[Sl.v,map_append,map_cons,map_nil,sum_append,sum_cons,sum_nil];omega)
   refine gh ?_;try dsimp only at hI
   refine gh ?_;obtain⟨h0,_⟩|⟨_,t,hr,htk,g1,g2,g3,g4⟩:=id hI.q
   ·exact absurd (Classical.not_not.1 h77) h0
   try dsimp only at hr
   refine gc (Pa t xs[k].ref _ Mk ⟨_,_,_,_,rfl,g1,g2,g3,g4⟩) ?_;rintro _ Ml hMl hpt;obtain⟨qa,qb,qc,qd,e2,rfl,hq⟩:=hpt.q;refine gh ?_;have hng:¬(gn=false\/xs[k].ref=0):=λh=>h.elim (λe=>by rw[h79]at e;cases e) h85;have hql:=wKp hng h90 hr hq;refine BD ⟨k+1,Ml,qa,qb,qc,qd,e2,dv,Rd,dd⟩ ⟨by show k+1<=_;omega,hI.mle.trans hMl,by show YQ ((xs.take (k+1)).foldl _ _) _ _ _ _ _ _ _;rw[MA hk1];exact hql,hI.own,by show dd.length<=_+(k+1);have:=hI.few;try dsimp only at this;omega⟩ (hs:=λw h=>h.subC λf=>by simp only[map_append,map_cons,map_nil,sum_append,sum_cons,sum_nil];omega)
  refine gh ?_;obtain⟨h0,_⟩|⟨_,t,hr,htk,g1,g2,g3,g4⟩:=id hI.q
  ·exact absurd (Classical.not_not.1 h77) h0
  try dsimp only at hr
  refine BD ⟨k+1,Mk,ua,ub,uc,ud,e,dv,Rd,dd⟩ ⟨by show k+1<=_;omega,hI.mle,by show YQ ((xs.take (k+1)).foldl _ _) _ _ _ _ _ _ _;rw[MA hk1];exact .inr ⟨Classical.not_not.1 h77,t,by rw[hr];exact if_pos (.inl h79),htk,g1,g2,g3,g4⟩,hI.own,by show dd.length<=_+(k+1);have:=hI.few;try dsimp only at this;omega⟩ (hs:=λw h=>h.subC λf=>by simp only[map_append,map_cons,map_nil,sum_append,sum_cons,sum_nil];omega)
 refine gg ?_;have hfx:xs.take k=xs:=List.take_of_length_le (by omega);have hqe:=hI.q;try dsimp only at hqe
 rw[hfx]at hqe;refine gj (λh100=>?_) λh100=>?_
 ·refine gr ?_;obtain⟨_,j,hr⟩|⟨h0,_⟩:=hqe;rotate_left
  ·exact absurd h0 h100
  exact⟨by rw[hrpf,hr];exact⟨by decide,rfl⟩,rfl⟩
 refine gg ?_;have hdv:dv.n=dd.length:=by obtain⟨a,c,e⟩:=hI.own.form;exact congrArg (λv=>match v with|Value.slice _ n _=>n|_=>0) e
 refine gj (λh105=>?_) λh105=>?_
 ·refine gr ?_;obtain⟨h0,_⟩|⟨_,t,hr,htk,g1,g2,g3,g4⟩:=hqe
  ·exact absurd (Classical.not_not.1 h100) h0
  exact⟨by rw[hrpf,hr,show wTg p (.ok (t,dd))=.error 9 from if_pos (by omega)];exact⟨by decide,rfl⟩,rfl⟩
 refine gh ?_;refine BK hI.own (by simp) ?_;intro M9 a9 c9 hM9 e9 h9c h9s;refine gr ?_;obtain⟨h0,_⟩|⟨_,t,hr,htk,g1,g2,g3,g4⟩:=hqe
 ·exact absurd (Classical.not_not.1 h100) h0
 refine⟨?_,rfl⟩;rw[hrpf,hr,show wTg p (.ok (t,dd))=.ok ⟨t,p.gen,p.root,p.next,dd⟩from if_neg (by omega)];exact⟨⟨ua,ub,uc,ud,⟨dv.a,dv.n,dv.c⟩⟩,rfl,⟨g1.mono hM9,g2.mono hM9,g3.mono hM9,g4.mono hM9,⟨_,_,e9,h9c,h9s⟩⟩⟩
end Go.Proofs.YtjheijhahehnmaaGreatDoor
