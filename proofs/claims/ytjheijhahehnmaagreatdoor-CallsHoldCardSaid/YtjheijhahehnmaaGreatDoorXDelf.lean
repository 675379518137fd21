/- Lemmas. -/
import Derived.Test.YtjheijhahehnmaaGreatDoorXPlw
namespace Go.Proofs.YtjheijhahehnmaaGreatDoor
open Go.Proofs.Tryz
open List (length_nil length getD map_cons sum_cons map_append)
set_option linter.unusedSimpArgs false
set_option linter.unusedVariables false
set_option linter.unusedSectionVars false
set_option maxHeartbeats 40000000
set_option maxRecDepth 8000
open Go.RowKit
variable{R:List Int}{S:List Nat}{l:Nat}{xs:List It}
theorem Thin.tree{u t:Sto}(h:Thin u t)(e:En t S R){r:Int}(m:r∈R)(o:8<=r/\r<256)(j:r.toNat∈S)(i:Ag u r.toNat=some ((l:Int),xs))(hs:Shp u l xs):
  Ag t r.toNat=some ((l:Int),xs)/\Shp t l xs/\Ax t l xs=Ax u l xs:=by
 have s:0<R.count r:=List.count_pos_iff.2 m;have d:=e.live (k:=r) (by omega) o.2 (by omega);have c:Ag t r.toNat=some ((l:Int),xs):=by rw[h.nd d];exact i
 have g:=Ar c;refine⟨c,h.shp e hs λx f=>⟨λn=>?_,λn w=>?_⟩⟩
 ·obtain ⟨a,zs,b⟩:=e.closed _ j _ _ c (by omega) x f;exact⟨a,by rw[b];simp⟩
 have:=g.ref x f;exact e.live (by omega) (by omega) (by have:=Ke j c f;omega)
theorem LN{t:Sto}{r:Int}(b:Au t)(d:8<=r/\r<256)(a:Ag t r.toNat=some ((l:Int),xs))(c:A1 t l xs):AN t r=((l:Int)+1,0)/\AT t r=Ax t l xs:=by
 refine⟨?_,by unfold AT;rw[a];rfl⟩;rw[Hb b (by omega) (B4 a),a];show (if A1 t ((l:Int)).toNat xs then (((l:Int)+1),(0:Int))else (0,8))=_;rw[tN,iP c]
variable{s:Sto}
theorem Fd(h:A1 s l xs):Srt (Ax s l xs):=(WW h).srt
theorem WV{u t:Sto}{e:List Nat}(g:ExtB s u)(hs:Sub s S e)(h:Thin u t)(k:En t e R){r:Int}(y:r∈R)(B:r.toNat∈S)(j:(AN s r).2=0):AN t r=AN s r/\AT t r=AT s r/\r.toNat∈e:=by
 obtain⟨w,l,a,z,lev,xs,b,i,C⟩:=CR j;have d:=hs _ B (by rw[b];simp);obtain⟨F,m⟩:=g.shp (Kj i);obtain⟨o,n,f⟩:=h.tree k y ⟨l,a⟩ d (g.nd _ _ b) F;have c:Srt (Ax t lev xs):=by rw[f,m];exact Fd i
 obtain⟨E,D⟩:=LN k.ok ⟨l,a⟩ o (KR n c);refine⟨?_,?_,d⟩
 ·rw [E,<-C];exact Prod.ext rfl j.symm
 rw[D,f,m];unfold AT;rw[b];rfl
structure PutOk(s t:Sto)(root now:Int)(x:It)(R:List Int)(S S':List Nat):Prop where
 en:En t S' (now::R)
 inS:now.toNat∈S'
 rng:8<=now/\now<256
 chk:(AN t now).2=0
 high:(AN t now).1=(AN s root).1\/(AN t now).1=(AN s root).1+1
 all:AT t now=C5 x (AT s root)
 other:∀r∈R,r.toNat∈S->(AN s r).2=0->AN t r=AN s r/\AT t r=AT s r/\r.toNat∈S'
 waits:(t.waits.length:Int)<=s.waits.length+2*(AN s root).1+1
 apa:Apa s S S'
variable{ws:List Stp}
theorem wGk{q:Ky}(h:¬Eh ws q=true)(a:wUn ws q):ws.length≠6:=λe=>by
 apply h
 have d:(ws.any λw=>decide (w.xs.length<5))=false:=by
  rw[List.any_eq_false];intro w b;simpa using a.1 w b
 have c:Eh ws q=(ws.length==6&& !(ws.any λw=>decide (w.xs.length<5))&& !XN ws q):=rfl
 rw[c,d,a.2,e];rfl
variable{lev:Nat}{xs0:List It}
theorem Zp{u:Sto}{i:List Nat}{root:Int}{x y:It}(M:(AN s root).2=0)(P:root.toNat∈S)(a:Ag s root.toNat=some ((lev:Int),xs0))(D:(AN s root).1=(lev:Int)+1)(L:l=lev\/l=lev+1)
  (N:En u i (y.ref::root::R)) (hs:Sub s S i) (C:ExtB s u) (V:u.waits.length<=s.waits.length+2*(lev+1)+1) (f:Shp u (l+1) [y]) (d:(8<=y.ref/\y.ref<256)/\y.ref.toNat∈i) (g:Ax u (l+1) [y]=C5 x (Ax s lev xs0)) (e:Srt (Ax s lev xs0)) (O:Apa s S i):
  ∃t,leave u root=some t/\PutOk s t root y.ref x R S i:=by
 obtain⟨J,Q,h,_,_⟩:=CR M;have w:=hs _ P (by rw[a];simp);obtain⟨t,I,j,k⟩:=GX (N.perm (List.Perm.swap _ _ _)) ⟨Q,h⟩ w (C.nd _ _ a);obtain⟨z,F,X,W,U⟩:=f y (by simp);obtain⟨H,G,B⟩:=k.tree j (r:=y.ref) (by simp) d.1 d.2 F U;have b:Ax u l z=C5 x (Ax s lev xs0):=by rw[<-Bf F,<-Dg];exact g
 have c:Srt (Ax t l z):=by rw[B,b];exact LB e
 obtain⟨E,T⟩:=LN j.ok d.1 H (KR G c);have o:AT s root=Ax s lev xs0:=by unfold AT;rw[a];rfl
 refine⟨t,I,j,d.2,d.1,by rw[E],?_,by rw[T,B,b,o],λr K n m=>WV C hs k j (by simp[K]) n m,?_,O⟩
 ·rw [E,D];rcases L with rfl|rfl
  ·exact .inl rfl
  right;show ((lev+1:Nat):Int)+1=_;omega
 rw[k.waits,D];omega
theorem Zo{root:Int}{x:It}(g:DF s root x=0)(U:Bh x.key)(N:x.ref≠0->x.ref.toNat∉S)(he:En s S (x.ref::root::R))(X:root.toNat∈S):
  (∃e,HG s root x=.error e/\(e=9\/e=70\/e=120))\/∃t h Z,HG s root x=.ok (t,h)/\PutOk s t root h x R S Z:=by
 obtain⟨W,V,M⟩:=Se g;obtain⟨ad,h8,aa,_,lev,xs0,b,k,h1⟩:=CR W;have m:=Kj k;have d:=Fd k;have ae:=(Ar b).lev;rw[Jt g b];by_cases a:Eh (AB s x.key lev xs0) x.key=true
 ·exact .inl ⟨120,PN a,.inr (.inr rfl)⟩
 rcases ZN (R:=root::R) (CH V) U M N he lev xs0 _ b X m d with⟨e,C,B⟩|⟨t,S1,f,C,B,k3,z,k5,k6,w,K,k9,ac,L,i⟩
 ·exact .inl ⟨e,Sd a C,B.imp id .inl⟩
 by_cases D:1<f.length
 ·have O:f.length=2:=by omega
  have T:=wGk a (L O);rw[EY]at T;have Q:=P4 (t:=t) (S1:=S1) (R:=root::R) (l:=lev+1) (l':=f) (held:=f) (by omega) (λe=>by rw[e]at D;exact aD D (by decide)) (by omega) k6 (by rw[K];exact LB d)
   (λy j=>by
    obtain⟨E,o,n,Y⟩:=w y j
    exact⟨WQ ⟨E,o⟩,Y,λ_=>⟨by omega,E,n⟩⟩) (λe=>aD e (by omega)) B (λy j=>.inr ⟨(w y j).2.1.1,(w y j).2.1.2,y,j,rfl⟩)
  have c:Kq x ((AB s x.key lev xs0).length:Int) (Rp s x (AB s x.key lev xs0))=build t ((lev+1:Nat):Int) f f:=by
   rw[C,EY];exact iP D
  rcases Q with⟨e,J,H⟩|⟨u,Z,ab,J,H,m3,m4,m5,m6,m7,m8,m9,I⟩
  ·exact .inl ⟨e,Sc a (c.trans J),H.imp id .inl⟩
  have P:(Bl f).length=1:=by rw[Gp,iN (by omega)]
  rw[P]at m9 m5;obtain⟨y,rfl⟩:=List.length_eq_one_iff.1 m9;obtain⟨E,o,n,Y⟩:=m7 y (by simp);obtain⟨v,G,F⟩:=Zp (x:=x) W X b h1 (.inr rfl) H (k3.trans z m3) (z.trans m4) (by omega) m6 ⟨o,n⟩ (m8.trans K) d (i.trans z I);exact .inr ⟨v,y.ref,Z,PO a (c.trans J) G,F⟩
 obtain⟨y,rfl⟩:=List.length_eq_one_iff.1 (show f.length=1 by omega);obtain⟨E,o,n,Y⟩:=w y (by simp);have c:Kq x ((AB s x.key lev xs0).length:Int) (Rp s x (AB s x.key lev xs0))=.ok (t,[y]):=by
  rw[C];show (if 1<[y].length then build t ((AB s x.key lev xs0).length:Int) [y] [y]else .ok (t,[y]))=_;exact iN D
 obtain⟨v,G,F⟩:=Zp (x:=x) W X b h1 (.inl rfl) B k3 z (by omega) k6 ⟨o,n⟩ K d i;exact .inr ⟨v,y.ref,S1,PO a c G,F⟩
def YJ(s:Sto)(lv:Int)(xs:List It):Int:=if Au s then Ku s lv xs else 8
def DmPost(s:Sto)(lv:Int)(xs:List It)(u:Value)(M':Mem):Prop:=(YJ s lv xs≠0/\u=.tuple #[.agg zeroSt.toArray,iL 0,iL (YJ s lv xs)])\/(YJ s lv xs=0/\∃v,u=.tuple #[v,iL (BD (Ai s xs)),iL 0]/\ST M' v (Ew s lv xs)/\Au (Ew s lv xs))
theorem wFa(s:Sto)(F S D:Value)(j:Option Addr)(C:Nat)(lv:Int)(xs:List It)(a:Option Addr)(c:Nat)(ps:List (It×Value))(M:Mem)(h1:LS M F s.blocks)(b:List (Wt×Value))(H:s.waits.length<=C)(G:SM M j (b.flatMap Bb))(n:b.map (·.1)=s.waits)(I:∀p∈b,BS M p.2 p.1.2)(h3:BS M S s.now)(h4:BS M D s.last)(hc:xs.length<=c)(hs:SM M a (ps.flatMap Ad))(E:ps.map (·.1)=xs)(hb:∀p∈ps,BS M p.2 p.1.val)(ab:∀x∈xs,0<=x.key.kind/\x.key.kind<256):
  Sg 22 #[.agg #[F,.slice j s.waits.length C,S,D],.agg #[iL lv,.slice a xs.length c]] M [] λu M' L'=>DmPost s lv xs u M'/\L'=[]:=by
 have ad:WS M (.slice j s.waits.length C) s.waits:=⟨j,C,b,rfl,H,G,n,I⟩;have ae:ST M (.agg #[F,.slice j s.waits.length C,S,D]) s:=⟨_,_,_,_,rfl,h1,ad,h3,h4⟩;have aa:NS M (.slice a xs.length c) xs:=⟨a,c,ps,rfl,hc,hs,E,hb⟩;refine sB func22 ntmps22 ?_;intro W;refine VY λb2 b3 b4=>?_;refine gQ (CC s _ M ae) ?_;refine gj (λg=>?_) λg=>?_
 ·refine gr ?_;have h:YJ s lv xs=8:=iN λk=>g (by unfold Dz;rw[iP k]);have hk:Dz s=8:=by unfold Dz;rw[iN λk=>g (by unfold Dz;rw[iP k])]
  refine⟨.inl ⟨by rw[h];decide,?_⟩,rfl⟩;rw[h,<-hk];rfl
 refine gQ (FS lv xs _ M aa) ?_;refine gj (λR=>?_) λR=>?_
 ·refine gr ?_;have d:Au s:=Classical.byContradiction λk=>g (by unfold Dz;rw[iN k];decide);have L:¬Cx lv xs=true:=λk=>R (iP k);have h:YJ s lv xs=8:=by unfold YJ;rw[iP d];unfold Ku;rw[iN L]
  have hk:CT lv xs=8:=iN L;refine⟨.inl ⟨by rw[h];decide,?_⟩,rfl⟩;rw[h,<-hk];rfl
 refine gh ?_;have d:Au s:=Classical.byContradiction λk=>g (by unfold Dz;rw[iN k];decide);obtain⟨ac,⟨o,_⟩,⟨y,_⟩⟩:=id d;have J:s.waits.length<=4096:=ac.2.1;refine gC (MI s F S D j C M H (by omega) h3 (by omega)) ?_;rintro _ M1 _ f ⟨T,Rn,na,nc,rfl,rfl,K⟩;have af:BOwn M1 T ((T,cE [F,.slice j s.waits.length s.waits.length,.slice na s.now.length nc,D] Eg)::Rn) s:=by
  refine⟨F,_,na,nc,D,[],Rn,rfl,h1.mono f,h4.mono f,K,b,n,λp E=>(I p E).mono f,?_⟩;have O:(b.flatMap Bb).length=s.waits.length*2:=by rw[Af Bb 2 B3,<-n,List.length_map]
  rcases G with h0|⟨wb,wo,rfl,Y⟩
  ·have hz:s.waits.length=0:=by rw[h0,length_nil]at O;omega
   rw[h0,hz];cases j with
   |none=>exact .inl (Own.nil _ _)
   |some ba=>exact .inr ⟨rfl,rfl,ba,rfl,.inl rfl,λi u Z=>by cases Z⟩
  exact .inr ⟨rfl,O,_,rfl,.inr rfl,λi u Z=>(Y i u Z).mono f⟩
 refine gC (Nd s lv xs a c ps M1 hc (hs.mono f) E (λp E=>(hb p E).mono f) ab T _ af o y J) ?_;rintro _ M2 R2 aw ⟨az,e,rfl,he,Q⟩;refine gj (λB=>?_) λB=>?_
 ·refine gr ?_;have h:YJ s lv xs=e:=by unfold YJ;rw[iP d];exact he.symm
  exact⟨.inl ⟨by rw[h];exact B,by rw[h];rfl⟩,rfl⟩
 refine gh ?_;have z:e=0:=nN B;have m:Ku s lv xs=0:=he.symm.trans z;have w:=GW m J;have N:=HN d w.1 w.2.2.1 w.2.2.2;obtain⟨P,⟨ap,_⟩,⟨aq,_⟩⟩:=id N;refine Lx (Q z).2 (by simp) ?_;intro M3 X U V Gh av e3 k1 k2 k3 k4;refine gc (DU (Ew s lv xs) T X U V Gh M3 e3 k1 k2 k3 k4 P (by omega) (by omega)) ?_;rintro _ M4 au l;obtain⟨q1,q2,q3,q4,rfl,f1,f2,f3,f4⟩:=l.ex;obtain⟨ay,ax,ah,rfl,_⟩:=id f1;obtain⟨aj,ai,ag,rfl,_⟩:=id f2;obtain⟨al,ak,rfl,_⟩:=id f3;obtain⟨ao,am,rfl,_⟩:=id f4;refine gr ?_;have h:YJ s lv xs=0:=by unfold YJ;rw[iP d];exact m
 exact⟨.inr ⟨h,_,by rw[<-(Q z).1];rfl,l,N⟩,rfl⟩
variable{M':Mem}{lv:Int}{s:Sto}{u:Value}{xs:List It}
theorem DmPost.form(h:DmPost s lv xs u M'):∃B bn z j g i l b k o m n a e,u=.tuple #[.agg #[.slice B bn z,.slice j g i,.slice l b k,.slice o m n],iL a,iL e]/\
  ((e≠0/\e=YJ s lv xs/\a=0/\b=0)\/(e=0/\YJ s lv xs=0/\a=(BD (Ai s xs):Int)/\b=(Ew s lv xs).now.length/\ST M' (.agg #[.slice B bn z,.slice j g i,.slice l b k,.slice o m n]) (Ew s lv xs)/\Au (Ew s lv xs))):=by
 rcases h with⟨d,c⟩|⟨d,v,c,w,I⟩
 ·exact ⟨none,0,0,none,0,0,none,0,0,none,0,0,0,_,c,.inl ⟨d,rfl,rfl,rfl⟩⟩
 obtain⟨S,R,Q,P,rfl,M,L,K,J⟩:=w.ex;obtain⟨O,N,y,rfl,_⟩:=id M;obtain⟨D,C,f,rfl,_⟩:=id L;obtain⟨F,E,rfl,_⟩:=id K;obtain⟨H,G,rfl,_⟩:=id J;exact⟨_,_,_,_,_,_,_,_,_,_,_,_,_,0,c,.inr ⟨rfl,d,rfl,rfl,w,I⟩⟩
theorem QT(s:Sto)(v sl:Value)(lv:Int)(xs:List It)(M:Mem)(o:ST M v s)(B:NS M sl xs)(i:∀x∈xs,0<=x.key.kind/\x.key.kind<256):
  Sg 22 #[v,.agg #[iL lv,sl]] M [] λu M' H=>DmPost s lv xs u M'/\H=[]:=by
 obtain⟨b,w,n,l,rfl,G,⟨k,j,d,rfl,g,e,f,h⟩,F,E⟩:=o.ex;obtain⟨a,c,m,rfl,C,y,z,D⟩:=B;exact wFa s b n l k j lv xs a c m M G d g e f h F E C y z D i
theorem HE(s:Sto)(v a:Value)(root:Int)(x:It)(M:Mem)(k:ST M v s)(j:BS M a x.val)(hk:Bh x.key):
  Sg 172 #[v,iL root,.agg #[iB x.key.kind,iU x.key.id,iU x.key.off,iL x.ref,a]] M [] λu M' z=>PtPost (HG s root x) u M'/\z=[]:=by
 obtain⟨b,w,n,l,rfl,y,⟨i,h,c,rfl,f,d,e,g⟩,o,m⟩:=k.ex;exact wHq s root x a b n l i h c M y f d e g o m j hk
theorem wCe(s:Sto)(g b c d:Value)(M:Mem)(f:ST M (.agg #[g,b,c,d]) s):
  Sg 14 #[.agg #[g,b,c,d]] M [] λu M' l=>DmPost s 0 [] u M'/\l=[]:=by
 refine sB func14 ntmps14 ?_;intro W;refine gh ?_;refine lh (Bz (cs:=[g,b,c,d]) rfl rfl rfl rfl) ?_;rintro _ _ _ ⟨H,rfl,rfl,rfl⟩;refine lh (AW rfl rfl) ?_;rintro _ _ _ ⟨G,rfl,rfl,rfl⟩;iterate 2 refine jp rfl ?_
 refine Am (jT (Ao (Aj ?_)));refine lq (K5 rfl rfl rfl rfl rfl) ?_;refine lq (Bo (BC (cs:=[_,_]) rfl rfl rfl (by rfl)) (v':=.agg #[iL 0,sN]) rfl) ?_;refine gc (QT s _ _ 0 [] M f NS.nil (λx h=>by cases h)) ?_;rintro _ I j a;obtain⟨F,bn,E,o,m,n,z,w,y,D,B,C,k,e,rfl,i⟩:=a.form;refine gr ?_;exact⟨a,rfl⟩
variable{M:Mem}{b:Nat}{e:TypeId}{g:Nat×Nat}{xs:List Value}
theorem AF{off:Nat}{v:Value}(h:M b=some (.cells xs.toArray e g))(a:xs[off]? =some v):CM M b off v:=⟨_,_,_,h,by rw[List.getElem?_toArray];exact a⟩
theorem PT5.st{x:V5}{p:Po}(h:PT5 M x p):ST M (.agg #[x.b.v,x.w.v,x.n.v,x.l.v]) p.st:=⟨_,_,_,_,rfl,h.b,h.w,h.n,h.l⟩
variable{s:Sto}
theorem ST.four{v:Value}(h:ST M v s):∃a b c d:Sl,v=.agg #[a.v,b.v,c.v,d.v]/\LS M a.v s.blocks/\WS M b.v s.waits/\BS M c.v s.now/\BS M d.v s.last:=by
 obtain⟨a,b,c,d,rfl,i,g,f,e⟩:=h.ex;obtain⟨a,rfl⟩:=i.sl;obtain⟨b,rfl⟩:=g.sl;obtain⟨c,rfl⟩:=f.sl;obtain⟨d,rfl⟩:=e.sl;exact⟨a,b,c,d,rfl,i,g,f,e⟩
theorem halves{t:List By}(h:t.length=256):Su t 0++Su t 1=t:=by
 unfold Su;rw[show 128*0=0 from rfl,List.drop_zero,List.take_of_length_le (l:=t.drop (128*1)) (by rw[List.length_drop];omega)];exact List.take_append_drop 128 t
def VS(M:Mem)(s:Sl)(vs:List Vo):Prop:=s.n=vs.length/\vs.length<=s.c/\SM M s.a (vs.flatMap Ds)
def VlP(p:Po)(u:Value)(M':Mem):Prop:=∃(s:Sl),u=.tuple #[s.v,iL (AO p)]/\∀vs refs nodes,cens p.st p.root p.next p.dead=some (vs,refs,nodes)->VS M' s vs
theorem wLy(p:Po)(x:V5)(M:Mem)(h:PT5 M x p)(d:p.dead.length<=1000000)(b:cens p.st p.root p.next p.dead=none):
  Sg 101 #[.agg (Bk x p.gen p.root p.next).toArray] M [] λu M' f=>VlP p u M'/\f=[]:=by
 refine sB func101 ntmps101 ?_;intro W;refine ga λg=>?_;refine gc (Cv p _ M h.pt d) ?_;rintro _ i e a;unfold TakeP at a;rw[b]at a;subst a;refine gu ?_;exact⟨⟨⟨none,0,0⟩,by unfold AO;rw[b];rfl,λvs c nodes h=>by rw[b]at h;cases h⟩,rfl⟩
theorem wEn(p:Po)(x:V5)(M:Mem)(h:PT5 M x p)(n:p.dead.length<=1000000)(vs:List Vo)(refs nodes:List Int)(j:cens p.st p.root p.next p.dead=some (vs,refs,nodes)):
  Sg 101 #[.agg (Bk x p.gen p.root p.next).toArray] M [] λu M' s=>VlP p u M'/\s=[]:=by
 refine sB func101 ntmps101 ?_;intro W;refine ga λF=>?_;refine gc (Cv p _ M h.pt n) ?_;rintro _ G o a;unfold TakeP at a;rw[j]at a;obtain⟨E,D,w,z,C,y,B,m,l,rfl,i,g,f,e,b⟩:=a;refine gt ?_;refine lq (Aw rfl rfl rfl rfl ((AF i (F3 e b)).cj _)) ?_;refine gr ?_;exact⟨⟨⟨m,vs.length,l⟩,by unfold AO;rw[j],λk d c h=>by rw[j]at h;cases h;exact⟨rfl,g,f⟩⟩,rfl⟩
theorem QE(p:Po)(x:V5)(M:Mem)(h:PT5 M x p)(b:p.dead.length<=1000000):Sg 101 #[.agg (Bk x p.gen p.root p.next).toArray] M [] λu M' e=>VlP p u M'/\e=[]:=by
 cases d:cens p.st p.root p.next p.dead with
 |none=>exact wLy p x M h b d
 |some c=>obtain⟨vs,a,nodes⟩:=c;exact wEn p x M h b vs a nodes d
theorem N0(v:Vo):(Ds v).length=4:=rfl
def VM(q:Int)(vs:List Vo):Bool:=vs.any λv=>decide (v.id=q)
def Kf(vs:List Vo)(q:Int):Option Vo:=vs.find? λv=>decide (v.id=q)
def VixP(vs:List Vo)(q i:Int):Prop:=(i= -1/\Kf vs q=none/\VM q vs=false)\/∃k:Nat,i=k/\∃h:k<vs.length,Kf vs q=some vs[k]/\VM q vs=true
theorem Ta:∀{vs:List Vo}{q:Int},(∀v∈vs,v.id≠q)->Kf vs q=none/\VM q vs=false
 |[],_,_=>⟨rfl,rfl⟩
 |v::vs,q,h=>by
  have c:=h v (by simp);obtain⟨a,b⟩:=Ta (vs:=vs) (q:=q) λw d=>h w (by simp[d]);unfold Kf VM at *;rw[List.find?_cons_of_neg (by simpa using c),List.any_cons,dF c];exact⟨a,b⟩
variable{k:Nat}{vs:List Vo}
theorem wPp{q:Int}(hk:k<vs.length)(h:vs[k].id=q)(l:∀j (d:j<vs.length),j<k->vs[j].id≠q):Kf vs q=some vs[k]/\VM q vs=true:=by
 have e:vs=vs.take k++vs[k]::vs.drop (k+1):=by rw[<-List.drop_eq_getElem_cons hk,List.take_append_drop]
 obtain⟨a,b⟩:=Ta (vs:=vs.take k) (q:=q) λw f=>by
  obtain⟨j,d,c,rfl⟩:∃j,∃d:j<vs.length,j<k/\vs[j]=w:=by
   obtain⟨i,g,e⟩:=List.getElem_of_mem f;rw[List.length_take]at g;exact⟨i,by omega,by omega,by rw[<-e,List.getElem_take]⟩
  exact l j d c
 unfold Kf VM at *;refine⟨?_,List.any_eq_true.2 ⟨vs[k],List.getElem_mem hk,dT h⟩⟩;conv=>lhs;rw[e]
 rw[List.find?_append,a,List.find?_cons_of_pos (by simpa using h)];rfl
theorem Ur(vs:List Vo)(a:Option Addr)(c:Nat)(b:FuncId)(g:Value)(q:Int)(M:Mem)(hs:SM M a (vs.flatMap Ds))(hgo:De prog b=true)(B:∀v:Vo,Sg b #[.agg (Ds v).toArray,g] M [] λu _ _=>u=.bool (decide (v.id=q)))(I:vs.length<=1000):
  Sg 182 #[.slice a vs.length c,.func (.func b) #[] #[g]] M [] λv _ _=>∃i:Int,v=iL i/\VixP vs q i:=by
 refine sB func182 ntmps182 ?_;intro W;refine gh ?_;refine Cy (α:=Nat) (λk=>[(0,.slice a vs.length c),(1,.func (.func b) #[] #[g]),(7,iL vs.length),(8,iL k)]) (λ_=>M) (λ_=>[]) (λk=>k<=vs.length/\∀j (l:j<vs.length),j<k->vs[j].id≠q) (λk=>vs.length-k) 0 ⟨zL,λ_ _ h=>aD h (Nat.not_lt_zero _)⟩ ?_;rintro k ⟨y,m⟩;try dsimp only at y m⊢
 refine gj (λC=>?_) λC=>?_
 ·refine gh ?_;have d:k<vs.length:=by omega
  obtain⟨H,G,F,w⟩:=hs.open (by intro e;have:=cA length e;rw[Af Ds 4 N0,length_nil]at this;omega);cases F;have s:=Bx Ds 4 N0 w (List.getElem?_eq_getElem d);refine gh ?_;refine lq (A0 (cs:=Ds vs[k]) rfl rfl rfl rfl rfl (λi v n=>(s i v n).cj _)) ?_;refine BK rfl rfl (Dc rfl rfl rfl rfl rfl hgo (B vs[k])) (λf=>?_) (λf=>?_)
  ·refine gr ?_;exact⟨(k:Int),rfl,.inr ⟨k,rfl,d,wPp d (oT f) m⟩⟩
  refine gh ?_;refine Pf (k+1) (kC (t:=0) rfl (kC (t:=1) rfl (kC (t:=7) rfl (kC (t:=8) rfl Keep.nil)))) ⟨by show k+1<=vs.length;omega,λj l z=>by
   by_cases e:j=k
   ·subst e;exact oF f
   exact m j l (by omega)⟩ (by show vs.length-(k+1)<vs.length-k;omega) (λ_ h=>h)
 refine gr ?_;have o:k=vs.length:=by omega
 subst o;obtain⟨E,D⟩:=Ta (vs:=vs) (q:=q) λv n=>by obtain⟨j,l,rfl⟩:=List.getElem_of_mem n;exact m j l l
 exact⟨-1,rfl,.inl ⟨rfl,E,D⟩⟩
theorem wAn(vs:List Vo)(a:Option Addr)(c:Nat)(b:FuncId)(d:Value)(q:Int)(M:Mem)(hs:SM M a (vs.flatMap Ds))(hgo:De prog b=true)(h:∀v:Vo,Sg b #[.agg (Ds v).toArray,d] M [] λu _ _=>u=.bool (decide (v.id=q)))(f:vs.length<=1000):
  Sg 254 #[.slice a vs.length c,.func (.func b) #[] #[d]] M [] λv _ _=>v=.bool (VM q vs):=by
 refine sB func254 ntmps254 ?_;intro W;refine gC (Ur vs a c b d q M hs hgo h f) ?_;rintro _ m _ j ⟨i,rfl,g⟩;refine gr ?_;refine cA _ ?_;rcases g with⟨l,_,e⟩|⟨k,l,_,_,e⟩
 ·rw [e];exact dF (by omega)
 rw[e];exact dT (by omega)
theorem wAk(v:Vo)(q:Int)(b:Nat)(M:Mem)(a:M b=some (cE [iU q] 29)):
  Sg 183 #[.agg (Ds v).toArray,pB b] M [] λu _ _=>u=.bool (decide (v.id=q)):=by
 refine sB func183 ntmps183 ?_;intro W;refine ga λc=>?_;refine lq (Aw rfl rfl rfl rfl (CM.cj ⟨_,_,_,a,rfl⟩ _)) ?_;refine gr ?_;rfl
theorem wFs(w:Vo)(v:Vo)(b:Nat)(M:Mem)(a:M b=some (cE (Ds w) 98)):
  Sg 255 #[.agg (Ds v).toArray,pB b] M [] λu _ _=>u=.bool (decide (v.id=w.id)):=by
 refine sB func255 ntmps255 ?_;intro W;refine ga λc=>?_;refine lq (Aw rfl rfl rfl rfl (CM.cj ⟨_,_,_,a,rfl⟩ _)) ?_;refine gr ?_;rfl
variable{f:It->List Vo->Option (List Vo)}
theorem Pt:∀{xs ys:List It}{b:List Vo},AZ f (xs++ys) b=(AZ f xs b).bind λa=>AZ f ys a
 |[],ys,b=>rfl
 |x::xs,ys,b=>by
  rw[List.cons_append,AZ,AZ];cases f x b with
  |none=>rfl
  |some a=>exact Pt
variable{gf:It->List Vo->Option (List Vo)}
theorem Ni{k:It->List It}:∀{xs:List It}{b:List Vo},(∀x b,gf x b=AZ f (k x) b)->AZ gf xs b=AZ f (xs.flatMap k) b
 |[],b,_=>rfl
 |x::xs,b,h=>by
  rw[AZ,List.flatMap_cons,Pt,h];cases AZ f (k x) b with
  |none=>rfl
  |some a=>exact Ni h
variable{s:Sto}
theorem Jf{next:Int}:∀(l:Nat){xs:List It}{a:List Vo},CY s next l xs a=AZ (Mx next) (Ax s l xs) a
 |0,xs,a=>by rw[CY,Ci]
 |l+1,xs,a=>by
  rw[CY];exact Ni λx a=>Jf l
theorem NZ{next:Int}:∀{xs:List It}{a:List Vo},a.length<=16->AZ (Mx next) xs a=if (∀x∈xs,Dr x/\x.key.id≠0/\x.key.id<next)/\a.length+xs.length<=16 then some (a++xs.map Cz)else none
 |[],a,h=>by rw[AZ,iP ⟨λx c=>(by cases c),by simpa using h⟩];simp
 |x::xs,a,h=>by
  rw[AZ];by_cases c:wPh x next a.length
  ·rw [show Mx next x a=some (a++[Cz x])from iP c];dsimp only;have b:=c;unfold wPh at b;rw[NZ (by rw[List.length_append,List.length_singleton];omega)];by_cases e:(∀y∈xs,Dr y/\y.key.id≠0/\y.key.id<next)/\(a++[Cz x]).length+xs.length<=16
   ·have f:(∀y∈x::xs,Dr y/\y.key.id≠0/\y.key.id<next)/\a.length+(x::xs).length<=16:=by
     refine⟨λy d=>?_,by have:=e.2;simp at this ⊢;omega⟩;rcases List.mem_cons.1 d with rfl|d
     ·exact ⟨b.1,b.2.1,b.2.2.1⟩
     exact e.1 y d
    rw[iP e,iP f];simp
   rw[iN e,iN λg=>e ⟨λy d=>g.1 y (by simp[d]),by have:=g.2;simp at this ⊢;omega⟩]
  rw[show Mx next x a=none from iN c];dsimp only;rw[iN λg=>c ?_];have i:=g.1 x (by simp);have j:=g.2;rw[List.length_cons]at j;exact⟨i.1,i.2.1,i.2.2,by omega⟩
def BQ(p:Po)(q:Int):Int:=match cens p.st p.root p.next p.dead with|none=>8|some (vs,_,_)=>match Kf vs q with|none=>6|some _=>0
def As(p:Po)(q:Int):Vo:=match cens p.st p.root p.next p.dead with|none=>⟨0,0,false,0⟩|some (vs,_,_)=>(Kf vs q).getD ⟨0,0,false,0⟩
variable{d:List Int}
theorem Ws{r n:Int}{refs nodes:List Int}(h:cens s r n d=some (vs,refs,nodes)):vs.length<=1000:=by
 unfold cens at h;split at h
 ·split at h
  ·cases h
  rename_i lv xs c;split at h
  ·cases h
  rename_i ws a;split at h
  ·cases h
  split at h
  ·cases h;rw[Jf,NZ (by simp)]at a;split at a
   ·rename_i b;cases a;have:=b.2;simp at this ⊢;omega
   cases a
  cases h
 cases h
theorem wSt(p:Po)(x:V5)(M:Mem)(h:PT5 M x p)(c:p.dead.length<=1000000)(q:Int)(b:cens p.st p.root p.next p.dead=none):
  Sg 114 #[.agg (Bk x p.gen p.root p.next).toArray,iU q] M [] λu M' e=>u=.tuple #[.agg (Ds (As p q)).toArray,iL (BQ p q)]/\e=[]:=by
 refine sB func114 ntmps114 ?_;intro W;refine ga λi=>?_;refine lh (Bz rfl rfl rfl rfl) ?_;rintro _ _ _ ⟨g,rfl,rfl,rfl⟩;refine ga λf=>?_;refine gc (Cv p _ M h.pt c) ?_;rintro _ j d a;unfold TakeP at a;rw[b]at a;subst a;refine gu ?_;exact⟨by unfold As BQ;rw[b];rfl,rfl⟩
theorem wMa(p:Po)(x:V5)(M:Mem)(h:PT5 M x p)(G:p.dead.length<=1000000)(q:Int)(vs:List Vo)(refs nodes:List Int)(l:cens p.st p.root p.next p.dead=some (vs,refs,nodes)):
  Sg 114 #[.agg (Bk x p.gen p.root p.next).toArray,iU q] M [] λu M' L=>u=.tuple #[.agg (Ds (As p q)).toArray,iL (BQ p q)]/\L=[]:=by
 refine sB func114 ntmps114 ?_;intro W;refine ga λZ=>?_;refine lh (Bz rfl rfl rfl rfl) ?_;rintro _ _ _ ⟨w,rfl,rfl,rfl⟩;refine ga λY=>?_;refine gc (Cv p _ M h.pt G) ?_;rintro _ M1 H b;unfold TakeP at b;rw[l]at b;obtain⟨X,U,P,R,T,Q,S,B,z,rfl,g,E,f,d,a⟩:=b;refine gt ?_;refine lq (Aw rfl rfl rfl rfl ((AF g (F3 d a)).cj _)) ?_;refine gh ?_;refine AA w (by simp) ?_;intro y c J;refine gC (Ur vs B z _ _ q y (f.mono c) (by kernel_rfl) (λv=>wAk v q w y J) (Ws l)) ?_;rintro _ M3 _ j ⟨i,rfl,s⟩;refine gj (λo=>?_) λo=>?_
 ·refine gr ?_;obtain⟨_,I,_⟩|⟨k,rfl,_⟩:=s;rotate_left
  ·exfalso;omega
  exact⟨by unfold As BQ;rw[l];dsimp only;rw[I];rfl,rfl⟩
 refine gh ?_;refine lq (Aw rfl rfl rfl rfl (((AF g (F3 d a)).mono (c.trans j)).cj _)) ?_;refine gh ?_;obtain⟨V,_⟩|⟨k,rfl,F,m,_⟩:=s
 ·exfalso;omega
 obtain⟨O,N,K,C⟩:=f.open (by intro e;have:=cA length e;rw[Af Ds 4 N0,length_nil]at this;omega);cases K;have n:=Bx Ds 4 N0 C (List.getElem?_eq_getElem F);refine gh ?_;refine lq (A0 (cs:=Ds vs[k]) rfl rfl rfl rfl rfl (λi v D=>(((n i v D).mono (c.trans j))).cj _)) ?_;refine gr ?_;exact⟨by unfold As BQ;rw[l];dsimp only;rw[m];rfl,rfl⟩
theorem DQ(p:Po)(x:V5)(M:Mem)(h:PT5 M x p)(b:p.dead.length<=1000000)(q:Int):Sg 114 #[.agg (Bk x p.gen p.root p.next).toArray,iU q] M [] λu M' e=>u=.tuple #[.agg (Ds (As p q)).toArray,iL (BQ p q)]/\e=[]:=by
 cases d:cens p.st p.root p.next p.dead with
 |none=>exact wSt p x M h b q d
 |some c=>obtain⟨vs,a,nodes⟩:=c;exact wMa p x M h b q vs a nodes d
def CS(p:Po):List Int:=match cens p.st p.root p.next p.dead with|none=>[]|some (_,refs,_)=>refs
theorem wMc(p:Po)(x:V5)(M:Mem)(h:PT5 M x p)(f:p.dead.length<=1000000)(d:cens p.st p.root p.next p.dead=none):
  Sg 12 #[.agg (Bk x p.gen p.root p.next).toArray] M [] λu M' i=>(∃(s:Sl),u=.tuple #[s.v,iL (AO p)]/\s.n=(CS p).length/\s.n<=s.c/\SM M' s.a (Al (CS p))/\(AO p=0->(CS p).length=256))/\i=[]:=by
 refine sB func12 ntmps12 ?_;intro W;refine ga λj=>?_;refine gc (Cv p _ M h.pt f) ?_;rintro _ k g b;unfold TakeP at b;rw[d]at b;subst b;refine gu ?_;have e:CS p=[]:=by unfold CS;rw[d]
 exact⟨⟨⟨none,0,0⟩,by unfold AO;rw[d];rfl,by rw[e];rfl,lR,by rw[e];exact SM.nil,λh=>aD h (by unfold AO;rw[d];decide)⟩,rfl⟩
theorem wEp(p:Po)(x:V5)(M:Mem)(h:PT5 M x p)(y:p.dead.length<=1000000)(vs:List Vo)(refs nodes:List Int)(f:cens p.st p.root p.next p.dead=some (vs,refs,nodes)):
  Sg 12 #[.agg (Bk x p.gen p.root p.next).toArray] M [] λu M' B=>(∃(s:Sl),u=.tuple #[s.v,iL (AO p)]/\s.n=(CS p).length/\s.n<=s.c/\SM M' s.a (Al (CS p))/\(AO p=0->(CS p).length=256))/\B=[]:=by
 refine sB func12 ntmps12 ?_;intro W;refine ga λK=>?_;refine gc (Cv p _ M h.pt y) ?_;rintro _ L z d;unfold TakeP at d;rw[f]at d;obtain⟨m,I,C,E,G,D,F,J,H,rfl,e,w,o,b,k⟩:=d;refine gt ?_;refine lq (PM rfl rfl rfl) ?_;refine gr ?_;have g:CS p=refs:=by unfold CS;rw[f]
 exact⟨⟨⟨sA m 6,256,256⟩,by unfold AO;rw[f],by rw[g,b],lR,by rw[g];exact .inr ⟨m,6,rfl,λi u j=>AF e (by
  have l:i<256:=by have:=(List.getElem?_eq_some_iff.1 j).1;rw[Ay]at this;omega
  rw[LU b l rfl];rw[<-j];simp[Al,getD,b,l])⟩,λ_=>by rw[g];exact b⟩,rfl⟩
theorem QI(p:Po)(x:V5)(M:Mem)(h:PT5 M x p)(d:p.dead.length<=1000000):Sg 12 #[.agg (Bk x p.gen p.root p.next).toArray] M [] λu M' f=>(∃(s:Sl),u=.tuple #[s.v,iL (AO p)]/\s.n=(CS p).length/\s.n<=s.c/\SM M' s.a (Al (CS p))/\(AO p=0->(CS p).length=256))/\f=[]:=by
 cases e:cens p.st p.root p.next p.dead with
 |none=>exact wMc p x M h d e
 |some c=>obtain⟨vs,b,nodes⟩:=c;exact wEp p x M h d vs b nodes e
theorem wLf(xs:List Int)(a:Option Addr)(c:Nat)(q:Int)(M:Mem)(hs:SM M a (Al xs))(B:xs.length<=1000000):
  Sg 334 #[.slice a xs.length c,iL q] M [] λv _ _=>∃i:Int,v=iL i/\(0<=i↔q∈xs):=by
 refine sB func334 ntmps334 ?_;intro W;refine gh ?_;refine Cy (α:=Nat) (λk=>[(0,.slice a xs.length c),(1,iL q),(7,iL xs.length),(8,iL k)]) (λ_=>M) (λ_=>[]) (λk=>k<=xs.length/\∀j (f:j<xs.length),j<k->xs[j]≠q) (λk=>xs.length-k) 0 ⟨zL,λ_ _ h=>aD h (Nat.not_lt_zero _)⟩ ?_;rintro k ⟨u,m⟩;try dsimp only at u m⊢
 refine gj (λy=>?_) λy=>?_
 ·refine gh ?_;have d:k<xs.length:=by omega
  obtain⟨o,n,z,s⟩:=hs.open (by intro e;have:=cA length e;rw[Ay,length_nil]at this;omega);cases z;have l:CM M o (n+k) (iL xs[k]):=s k _ (by simp[Al,d]);refine gh ?_;refine lq (Aw rfl rfl rfl rfl ((by rw[tN,mO];exact l:CM M o (n+((k:Nat):Int).toNat*1) _).cj _)) ?_;refine gj (λb=>?_) λb=>?_
  ·refine gr ?_;exact⟨(k:Int),rfl,λ_=>b▸List.getElem_mem d,λ_=>by omega⟩
  refine gh ?_;refine Pf (k+1) (kC (t:=0) rfl (kC (t:=1) rfl (kC (t:=7) rfl (kC (t:=8) rfl Keep.nil)))) ⟨by show k+1<=xs.length;omega,λj f w=>by
   by_cases e:j=k
   ·subst e;exact λe=>b e.symm
   exact m j f (by omega)⟩ (by show xs.length-(k+1)<xs.length-k;omega) (λ_ h=>h)
 refine gr ?_;have g:k=xs.length:=by omega
 subst g;exact⟨-1,rfl,λh=>aD h (by decide),λh=>by obtain⟨j,f,e⟩:=List.getElem_of_mem h;exact aD e (m j f f)⟩
theorem wEa(xs:List Int)(a:Option Addr)(c:Nat)(q:Int)(M:Mem)(hs:SM M a (Al xs))(b:xs.length<=1000000):
  Sg 319 #[.slice a xs.length c,iL q] M [] λv _ _=>v=.bool (decide (q∈xs)):=by
 refine sB func319 ntmps319 ?_;intro W;refine gC (wLf xs a c q M hs b) ?_;rintro _ f _ e ⟨i,rfl,d⟩;refine gr ?_;exact cA _ (decide_eq_decide.2 d)
variable{α:Type}
theorem Ux:∀(A L:List α),(∀f:α->Nat,(A.map f).sum<=(L.map f).sum)->∃G,L.Perm (A++G)
 |[],L,_=>⟨L,List.Perm.refl _⟩
 |a::A,L,h=>by
  classical
  have g:a∈L:=by
   refine Classical.byContradiction λe=>?_;have c:=h λx=>if x=a then 1 else 0
   have j:∀(l:List α),a∉l->(l.map λx=>if x=a then 1 else 0).sum=0:=λl=>by
    induction l with
    |nil=>intro _;rfl
    |cons y l d=>intro b;simp only[List.mem_cons,not_or]at b;rw[map_cons,sum_cons,d b.2,iN (Ne.symm b.1)]
   rw[j L e]at c;simp at c
  obtain⟨X,Y,rfl⟩:=List.append_of_mem g;obtain⟨G,i⟩:=Ux A (X++Y) λf=>by
   have:=h f;simp only[map_append,map_cons,List.sum_append,sum_cons]at this⊢;omega
  exact⟨G,List.perm_middle.trans (List.Perm.cons a i)⟩
variable{E:Ent}{L:Lc}{M:Mem}{w:World}
theorem St.subC{L':Lc}(h:St E M L w)(a:∀f:Nat×Obj->Nat,(L'.map f).sum<=(L.map f).sum):St E M L' w:=by
 obtain⟨G,b⟩:=Ux _ _ a;exact(h.perm b).fewer (List.sublist_append_left _ _)
def NR(nodes:List Int)(n:Nat):List Int:=((List.range n).filter λk=>decide (0<nodes.getD k 0)).map λk:Nat=>(k:Int)
variable{k:Nat}
theorem Sj{nodes:List Int}:NR nodes (k+1)=if 0<nodes.getD k 0 then NR nodes k++[(k:Int)]else NR nodes k:=by
 unfold NR;rw[List.range_succ,List.filter_append,map_append];split
 ·rename_i h;rw[List.filter_cons_of_pos (by simpa using h)];rfl
 rename_i h;rw[List.filter_cons_of_neg (by simpa using h)];simp
theorem Vl(nodes:List Int)(n:Nat):(NR nodes n).length<=n:=by
 unfold NR;rw[List.length_map];exact Nat.le_trans (List.length_filter_le _ _) (by simp)
def CL(p:Po):List Int:=match cens p.st p.root p.next p.dead with|none=>[]|some (_,_,nodes)=>NR nodes 256
variable{d:List Int}{s:Sto}
theorem wTi{r n:Int}{x:List Vo×List Int×List Int}(h:cens s r n d=some x):Au s/\d.length<=40:=by
 unfold cens at h;split at h
 ·rename_i a;exact⟨a.1,a.2.1⟩
 cases h
def Rg(p:Po)(v:Vo):Int:=match cens p.st p.root p.next p.dead with
 |none=>8
 |some (vs,refs,_)=>if v.id=0\/p.next<=v.id\/v.root<8\/256<=v.root then 2 else if VM v.id vs=false/\16<=vs.length then 9 else if ((p.st.now.getD v.root.toNat 0).toNat:Int)<=refs.getD v.root.toNat 0 then 6 else if (AN p.st v.root).2=0 then 0 else 8
theorem wEs(p:Po)(x:V5)(M:Mem)(h:PT5 M x p)(f:p.dead.length<=1000000)(d:cens p.st p.root p.next p.dead=none):
  Sg 318 #[.agg (Bk x p.gen p.root p.next).toArray] M [] λu M' i=>(∃(s:Sl),u=.tuple #[s.v,iL (AO p)]/\s.n=(CL p).length/\s.n<=s.c/\SM M' s.a (Al (CL p)))/\i=[]:=by
 refine sB func318 ntmps318 ?_;intro W;refine ga λj=>?_;refine gc (Cv p _ M h.pt f) ?_;rintro _ k g b;unfold TakeP at b;rw[d]at b;subst b;refine gu ?_;have e:CL p=[]:=by unfold CL;rw[d]
 exact⟨⟨⟨none,0,0⟩,by unfold AO;rw[d];rfl,by rw[e];rfl,lR,by rw[e];exact SM.nil⟩,rfl⟩
theorem Ys(p:Po)(x:V5)(M:Mem)(h:PT5 M x p)(V:p.dead.length<=1000000)(vs:List Vo)(refs nodes:List Int)(H:cens p.st p.root p.next p.dead=some (vs,refs,nodes)):
  Sg 318 #[.agg (Bk x p.gen p.root p.next).toArray] M [] λu M' L'=>(∃(s:Sl),u=.tuple #[s.v,iL (AO p)]/\s.n=(CL p).length/\s.n<=s.c/\SM M' s.a (Al (CL p)))/\L'=[]:=by
 refine sB func318 ntmps318 ?_;intro W;refine ga λP=>?_;refine gc (Cv p _ M h.pt V) ?_;rintro _ M1 Y o;unfold TakeP at o;rw[H]at o;obtain⟨cb,kb,kw,kn,kl,kp,km,ka,kc,rfl,F,T,S,C,l⟩:=o;refine gt ?_;refine Lu rfl rfl (A0 (cs:=Al nodes) rfl rfl rfl rfl (by rw[Ay];exact l) (λj v y=>(AF F (by
  have N:j<256:=by have:=(List.getElem?_eq_some_iff.1 y).1;rw[Ay]at this;omega
  show (Cp _ _ _ _ _ _ _ _ _)[262+j]? =_;rw[TX C l N rfl,<-y];simp[Al,getD,l,N])).cj _)) ?_
 refine gh ?_;refine Cy (α:=Nat×Value×Lc×List Int) (λz=>[(1,pB P),(2,z.2.1),(18,.agg (Al nodes).toArray),(19,iL z.1)]) (λ_=>M1) (λz=>z.2.2.1++[(P,cE (Bk x p.gen p.root p.next) wYb)]) (λz=>z.1<=256/\Own z.2.1 z.2.2.1 3 1 z.2.2.2.length (Al z.2.2.2)/\z.2.2.2=NR nodes z.1) (λz=>256-z.1) (0,sN,[],[]) ⟨zL,Own.nil _ _,rfl⟩ ?_;rintro⟨k,v,R,b⟩ ⟨U,d,e⟩;try dsimp only at U d e⊢
 obtain⟨L,K,y⟩:=d.form;subst y;refine gj (λJ=>?_) λJ=>?_
 ·refine gh ?_;have E:k<256:=by omega
  refine lq (Xs (v:=iL (nodes.getD k 0)) rfl rfl rfl rfl rfl (by omega) (by rw[mO,tN];simp[Al,getD,l,E])) ?_;refine gj (λw=>?_) λw=>?_
  ·refine gh ?_;refine lh (Ab (cs:=[_]) rfl rfl rfl (by rfl) (by rfl) (by rfl)) ?_;rintro _ _ _ ⟨aa,rfl,rfl,rfl⟩;have I:=Vl nodes k;rw[<-e]at I;refine lh (AY (R:=R) (m:=1) (news:=[iL k]) rfl rfl rfl rfl d rfl (λi v y=>CJ.loc (by simpa using y)) rfl (by rfl) (by simp[Value.oneCell']) (by omega) (by omega)) ?_;rintro s' _ _ ⟨rfl,Q,rfl,g,_⟩;obtain⟨a4,c4,rfl⟩:=g.form;refine gh ?_;refine BB (k+1,.slice a4 (b.length+1) c4,Q,b++[(k:Int)]) ⟨by show k+1<=256;omega,by show Own _ Q _ 1 (b++[_]).length (Al (b++[_]));rw[List.length_append];unfold Al at g ⊢;rw[map_append];exact g,by show b++[_]=NR nodes (k+1);rw[Sj,iP w,e]⟩ (hs:=λ_ h=>h.subC λf=>by simp only[map_append,map_cons,List.map_nil,List.sum_append,sum_cons,List.sum_nil];omega)
  refine gh ?_;refine BB (k+1,.slice L b.length K,R,b) ⟨by show k+1<=256;omega,d,by show b=NR nodes (k+1);rw[Sj,iN w,e]⟩
 refine gh ?_;have D:k=256:=by omega
 subst D;refine BF d (by simp) ?_;intro M2 a2 c2 X Z G B;cases Z;refine gr ?_;have O:CL p=b:=by unfold CL;rw[H];exact e.symm
 exact⟨⟨⟨L,b.length,K⟩,by unfold AO;rw[H],by rw[O],G,by rw[O];exact B⟩,rfl⟩
theorem V6(p:Po)(x:V5)(M:Mem)(h:PT5 M x p)(d:p.dead.length<=1000000):Sg 318 #[.agg (Bk x p.gen p.root p.next).toArray] M [] λu M' f=>(∃(s:Sl),u=.tuple #[s.v,iL (AO p)]/\s.n=(CL p).length/\s.n<=s.c/\SM M' s.a (Al (CL p)))/\f=[]:=by
 cases e:cens p.st p.root p.next p.dead with
 |none=>exact wEs p x M h d e
 |some c=>obtain⟨vs,b,nodes⟩:=c;exact Ys p x M h d vs b nodes e
theorem wSy(p:Po)(x:V5)(M:Mem)(h:PT5 M x p)(c:p.dead.length<=1000000)(v:Vo)(b:cens p.st p.root p.next p.dead=none):
  Sg 171 #[.agg (Bk x p.gen p.root p.next).toArray,.agg (Ds v).toArray] M [] λu M' e=>u=iL (Rg p v)/\e=[]:=by
 refine sB func171 ntmps171 ?_;intro W;refine JM λg f=>?_;refine gc (Cv p _ M h.pt c) ?_;rintro _ i d a;unfold TakeP at a;rw[b]at a;subst a;refine gu ?_;exact⟨by unfold Rg;rw[b];rfl,rfl⟩
theorem wMk(p:Po)(x:V5)(M:Mem)(h:PT5 M x p)(T:p.dead.length<=1000000)(v:Vo)(vs:List Vo)(refs nodes:List Int)(f:cens p.st p.root p.next p.dead=some (vs,refs,nodes)):
  Sg 171 #[.agg (Bk x p.gen p.root p.next).toArray,.agg (Ds v).toArray] M [] λu M' U=>u=iL (Rg p v)/\U=[]:=by
 obtain⟨F,_⟩:=wTi f;have R:p.st.now.length=256:=F.2.1.1;refine sB func171 ntmps171 ?_;intro W;refine JM λb2 O=>?_;refine gc (Cv p _ M h.pt T) ?_;rintro _ M1 l o;unfold TakeP at o;rw[f]at o;obtain⟨cb,kb,V,Y,kl,X,Z,Q,P,rfl,k,S,G,g,m⟩:=o;refine gt ?_;refine gj (λN=>?_) λN=>?_
 ·refine gr ?_;refine⟨?_,rfl⟩;unfold Rg;rw[f];dsimp only;first|rw[iP (by omega)]|(rw[iN (by omega)];first|rw[iP ⟨by assumption,by omega⟩]|(rw[iN (λa=>by first|(have:=a.2;omega)|(rw[c]at a;cases a.1))];first|rw[iP (by omega)]|(rw[iN (by omega)];first|rw[iP (by omega)]|rw[iN (by omega)])))
 refine gj (λL=>?_) λL=>?_
 ·refine gr ?_;refine⟨?_,rfl⟩;unfold Rg;rw[f];dsimp only;first|rw[iP (by omega)]|(rw[iN (by omega)];first|rw[iP ⟨by assumption,by omega⟩]|(rw[iN (λa=>by first|(have:=a.2;omega)|(rw[c]at a;cases a.1))];first|rw[iP (by omega)]|(rw[iN (by omega)];first|rw[iP (by omega)]|rw[iN (by omega)])))
 refine gj (λK=>?_) λK=>?_
 ·refine gr ?_;refine⟨?_,rfl⟩;unfold Rg;rw[f];dsimp only;first|rw[iP (by omega)]|(rw[iN (by omega)];first|rw[iP ⟨by assumption,by omega⟩]|(rw[iN (λa=>by first|(have:=a.2;omega)|(rw[c]at a;cases a.1))];first|rw[iP (by omega)]|(rw[iN (by omega)];first|rw[iP (by omega)]|rw[iN (by omega)])))
 refine gj (λJ=>?_) λJ=>?_
 ·refine gr ?_;refine⟨?_,rfl⟩;unfold Rg;rw[f];dsimp only;first|rw[iP (by omega)]|(rw[iN (by omega)];first|rw[iP ⟨by assumption,by omega⟩]|(rw[iN (λa=>by first|(have:=a.2;omega)|(rw[c]at a;cases a.1))];first|rw[iP (by omega)]|(rw[iN (by omega)];first|rw[iP (by omega)]|rw[iN (by omega)])))
 refine gh ?_;refine lq (Aw rfl rfl rfl rfl ((AF k (F3 g m)).cj _)) ?_;refine gh ?_;refine AA O (by simp) ?_;intro C d z;refine BK rfl rfl (Dc rfl rfl rfl rfl rfl (by kernel_rfl) (wAn vs Q P _ _ v.id C (G.mono d) (by kernel_rfl) (λw=>wFs v w O C z) (Ws f))) (λc=>?_) (λc=>?_)
 ·refine gh ?_;refine Qp [0,1,2,3,4,5,6,7,8,9,10,11,12,13,14,15] ?_;refine gh ?_;refine dq rfl (Aw rfl rfl rfl rfl (CM.cj ⟨_,_,_,z,rfl⟩ _)) ?_;obtain⟨D,no,B,nx⟩:=h.n.sm.open (by intro e;have:=cA length e;rw[Ac,length_nil]at this;omega);have E:x.n.n=p.st.now.length:=h.n.len;have H:=(p.st.now.getD v.root.toNat 0).toNat_lt;refine dq rfl (FN (b:=D) (off:=no) rfl rfl (by show some (Value.slice _ _ _)=_;rw[B]) rfl (by omega)) ?_;refine dq rfl (Aw (v:=iB ((p.st.now.getD v.root.toNat 0).toNat:Int)) rfl rfl rfl rfl (((nx _ _ (by rw[mO];exact B5 (xs:=p.st.now) (j:=v.root.toNat) (by omega))).mono (l.trans d)).cj _)) ?_;refine dq rfl (CZ rfl rfl rfl (by omega)) ?_;refine gh ?_;refine dq rfl (Aw rfl rfl rfl rfl (CM.cj ⟨_,_,_,z,rfl⟩ _)) ?_;refine gh ?_;refine dq rfl (FO rfl rfl rfl rfl (by omega)) ?_;refine dq rfl (Aw rfl rfl rfl rfl (((AF k (LU g (i:=v.root.toNat) (by omega) (by omega))).mono d).cj _)) ?_;refine gj (λy=>?_) λy=>?_
  ·refine gr ?_;refine⟨?_,rfl⟩;unfold Rg;rw[f];dsimp only;first|rw[iP (by omega)]|(rw[iN (by omega)];first|rw[iP ⟨by assumption,by omega⟩]|(rw[iN (λa=>by first|(have:=a.2;omega)|(rw[c]at a;cases a.1))];first|rw[iP (by omega)]|(rw[iN (by omega)];first|rw[iP (by omega)]|rw[iN (by omega)])))
  refine gh ?_;refine lq (Aw rfl rfl rfl rfl (CM.cj ⟨_,_,_,z,rfl⟩ _)) ?_;refine gQ (H2 p.st _ v.root C ((h.mono l).mono d).st) ?_;refine gj (λs=>?_) λs=>?_
  ·refine gr ?_;refine⟨?_,rfl⟩;unfold Rg;rw[f];dsimp only;first|rw[iP (by omega)]|(rw[iN (by omega)];first|rw[iP ⟨by assumption,by omega⟩]|(rw[iN (λa=>by first|(have:=a.2;omega)|(rw[c]at a;cases a.1))];first|rw[iP (by omega)]|(rw[iN (by omega)];first|rw[iP (by omega)]|rw[iN (by omega)])))
  refine gr ?_;refine⟨?_,rfl⟩;unfold Rg;rw[f];dsimp only;first|rw[iP (by omega)]|(rw[iN (by omega)];first|rw[iP ⟨by assumption,by omega⟩]|(rw[iN (λa=>by first|(have:=a.2;omega)|(rw[c]at a;cases a.1))];first|rw[iP (by omega)]|(rw[iN (by omega)];first|rw[iP (by omega)]|rw[iN (by omega)])))
 refine gh ?_;refine lq (Aw rfl rfl rfl rfl (((AF k (F3 g m)).mono (d)).cj _)) ?_;refine gj (λI=>?_) λI=>?_
 ·refine gr ?_;refine⟨?_,rfl⟩;unfold Rg;rw[f];dsimp only;first|rw[iP (by omega)]|(rw[iN (by omega)];first|rw[iP ⟨by assumption,by omega⟩]|(rw[iN (λa=>by first|(have:=a.2;omega)|(rw[c]at a;cases a.1))];first|rw[iP (by omega)]|(rw[iN (by omega)];first|rw[iP (by omega)]|rw[iN (by omega)])))
 refine gh ?_;refine Qp [0,1,2,3,4,5,6,7,8,9,10,11,12,13,14,15] ?_;refine gh ?_;refine dq rfl (Aw rfl rfl rfl rfl (CM.cj ⟨_,_,_,z,rfl⟩ _)) ?_;obtain⟨D,no,B,nx⟩:=h.n.sm.open (by intro e;have:=cA length e;rw[Ac,length_nil]at this;omega);have E:x.n.n=p.st.now.length:=h.n.len;have H:=(p.st.now.getD v.root.toNat 0).toNat_lt;refine dq rfl (FN (b:=D) (off:=no) rfl rfl (by show some (Value.slice _ _ _)=_;rw[B]) rfl (by omega)) ?_;refine dq rfl (Aw (v:=iB ((p.st.now.getD v.root.toNat 0).toNat:Int)) rfl rfl rfl rfl (((nx _ _ (by rw[mO];exact B5 (xs:=p.st.now) (j:=v.root.toNat) (by omega))).mono (l.trans d)).cj _)) ?_;refine dq rfl (CZ rfl rfl rfl (by omega)) ?_;refine gh ?_;refine dq rfl (Aw rfl rfl rfl rfl (CM.cj ⟨_,_,_,z,rfl⟩ _)) ?_;refine gh ?_;refine dq rfl (FO rfl rfl rfl rfl (by omega)) ?_;refine dq rfl (Aw rfl rfl rfl rfl (((AF k (LU g (i:=v.root.toNat) (by omega) (by omega))).mono d).cj _)) ?_;refine gj (λy=>?_) λy=>?_
 ·refine gr ?_;refine⟨?_,rfl⟩;unfold Rg;rw[f];dsimp only;first|rw[iP (by omega)]|(rw[iN (by omega)];first|rw[iP ⟨by assumption,by omega⟩]|(rw[iN (λa=>by first|(have:=a.2;omega)|(rw[c]at a;cases a.1))];first|rw[iP (by omega)]|(rw[iN (by omega)];first|rw[iP (by omega)]|rw[iN (by omega)])))
 refine gh ?_;refine lq (Aw rfl rfl rfl rfl (CM.cj ⟨_,_,_,z,rfl⟩ _)) ?_;refine gQ (H2 p.st _ v.root C ((h.mono l).mono d).st) ?_;refine gj (λs=>?_) λs=>?_
 ·refine gr ?_;refine⟨?_,rfl⟩;unfold Rg;rw[f];dsimp only;first|rw[iP (by omega)]|(rw[iN (by omega)];first|rw[iP ⟨by assumption,by omega⟩]|(rw[iN (λa=>by first|(have:=a.2;omega)|(rw[c]at a;cases a.1))];first|rw[iP (by omega)]|(rw[iN (by omega)];first|rw[iP (by omega)]|rw[iN (by omega)])))
 refine gr ?_;refine⟨?_,rfl⟩;unfold Rg;rw[f];dsimp only;first|rw[iP (by omega)]|(rw[iN (by omega)];first|rw[iP ⟨by assumption,by omega⟩]|(rw[iN (λa=>by first|(have:=a.2;omega)|(rw[c]at a;cases a.1))];first|rw[iP (by omega)]|(rw[iN (by omega)];first|rw[iP (by omega)]|rw[iN (by omega)])))
def nxt(w:Stp):Option Nat:=if w.at_+1=w.xs.length then (if w.at_=0 then none else some (w.at_-1))else some (w.at_+1)
def AH(t:Sto)(w:Stp)(l:List It):List It×Nat×Nat:=match nxt w with
 |none=>(l,w.at_,1)
 |some p=>match w.xs[p]? with
  |none=>(l,w.at_,1)
  |some y=>if 5<(kid t y).length+l.length then (l,w.at_,1)else if p<w.at_ then (kid t y++l,p,2)else (l++kid t y,w.at_,2)
def Da(t:Sto)(lv:Int)(l:List It)(held:Int):Except Int (Sto×Int):=
 if Ku t lv l=0 then
  (if 0<held then (if Cg (Ew t lv l) held.toNat=0 then .ok (AM (Ew t lv l) held.toNat,(BD (Ai t l):Int))else .error (Cg (Ew t lv l) held.toNat))
  else .ok (Ew t lv l,(BD (Ai t l):Int)))
 else .error (Ku t lv l)
def GF(w:Stp):List It:=w.xs.take w.at_++w.xs.drop (w.at_+1)
def Ry(w:Stp)(j:List It×Nat×Nat)(a:Int):List It:=w.xs.take j.2.1++[⟨Bw j.1,a,[]⟩]++w.xs.drop (j.2.1+j.2.2)
def wPt(t:Sto)(w:Stp)(l:List It)(held:Int):Except Int (Sto×List It×Int):=
 if l=[]then .ok (t,GF w,0)
 else match Da t (w.lv-1) (AH t w l).1 held with
  |.error e=>.error e
  |.ok (u,a)=>.ok (u,Ry w (AH t w l) a,a)
def dn(s:Sto)(l0:List It):List Stp->Except Int (Sto×List It×Int)
 |[]=>.ok (s,l0,0)
 |w::ws=>match dn s l0 ws with
  |.error e=>.error e
  |.ok (t,l,held)=>wPt t w l held
def Ed:Nat->Sto->Int->Except Int (Sto×Int)
 |0,t,r=>.ok (t,r)
 |n+1,t,r=>match Ag t r.toNat with
  |none=>.error 8
  |some (lv,xs)=>if lv=0 then .ok (t,r)else match xs with
   |[x]=>if Bj t x.ref.toNat=0 then (match leave (A7 t x.ref.toNat) r with
     |none=>.error 8
     |some u=>Ed n u x.ref)else .error (Bj t x.ref.toNat)
   |_=>.ok (t,r)
def TQ(n:Int):Except Int (Sto×List It×Int)->Except Int (Sto×Int)
 |.error e=>.error e
 |.ok (t,l,held)=>Da t (if l=[]then 0 else n) l held
def wMp:Except Int (Sto×Int)->Except Int (Sto×Int)
 |.error e=>.error e
 |.ok (t,a)=>Ed 7 t a
def KJ(root:Int):Except Int (Sto×Int)->Except Int (Sto×Int)
 |.error e=>.error e
 |.ok (t,r)=>match leave t root with
  |none=>.error 8
  |some u=>.ok (u,r)
def FV(ws:List Stp):List It:=match ws.getLast? with|some w=>GF w|none=>[]
def LQ(s:Sto)(root:Int)(ws:List Stp):Except Int (Sto×Int):=KJ root (wMp (TQ ((ws.length:Int)-1) (dn s (FV ws) ws.dropLast)))
def LR(s:Sto)(root:Int)(q:Ky):Except Int (Sto×Int):=
 if (AN s root).2=0 then
  match Ag s root.toNat with
  |none=>.error 8
  |some (lv,xs)=>match BP s q lv.toNat xs with
   |none=>.error 6
   |some _=>LQ s root (AB s q lv.toNat xs)
 else .error (AN s root).2
variable{k:Nat}{s:Sto}
theorem FU(hk:k<s.now.length)(g:2<=(s.now.getD k 0).toNat):ExtB s (AM s k)/\∀n,Ag (AM s k) n=Ag s n:=by
 have d:¬s.now.getD k 0=0:=FP (by omega);have c:=N1 d;have a:∀n,(AM s k).now.getD n 0=0↔s.now.getD n 0=0:=λn=>by
  show (s.now.set k _).getD n 0=0↔_;by_cases e:n=k
  ·subst e;rw[A5 hk];exact⟨λh=>by rw[h]at c;have i:(0:By).toNat=0:=rfl;omega,λh=>aD h d⟩
  rw[AJ e]
 have b:∀n,Ag (AM s k) n=Ag s n:=λn=>by
  have f:seen (AM s k) n=seen s n:=rfl;unfold Ag;rw[f];by_cases h:s.now.getD n 0=0
  ·rw [iP h,iP ((a n).2 h)]
  rw[iN h,iN λe=>h ((a n).1 e)]
 exact⟨⟨λn r h=>by rw[b];exact h,λn h e=>h ((a n).1 e)⟩,b⟩
theorem FK(hk:k<s.now.length)(h:Bj s k=0):ExtB s (A7 s k)/\∀n,Ag (A7 s k) n=Ag s n:=by
 obtain⟨i,c⟩:=Jn h;have f:=GO hk c;have a:∀n,(A7 s k).now.getD n 0=0↔s.now.getD n 0=0:=λn=>by
  have g:(0:By).toNat=0:=rfl;by_cases e:n=k
  ·subst e;have:=f n;rw[iP rfl]at this;exact⟨λh=>by rw[h]at this;omega,λh=>aD h i⟩
  show (s.now.set k _).getD n 0=0↔_;rw[AJ e]
 have b:∀n,Ag (A7 s k) n=Ag s n:=λn=>by
  have d:seen (A7 s k) n=seen s n:=rfl;unfold Ag;rw[d];by_cases h:s.now.getD n 0=0
  ·rw [iP h,iP ((a n).2 h)]
  rw[iN h,iN λe=>h ((a n).1 e)]
 exact⟨⟨λn r h=>by rw[b];exact h,λn h e=>h ((a n).1 e)⟩,b⟩
theorem Jm(h:Au s)(hk:8<=k):Au (A7 s k):=⟨h.1,GG hk h.2.1,h.2.2⟩
variable{R:List Int}{S:List Nat}
theorem En.share{k:Int}(h:En s S R)(hk:8<=k/\k<256)(m:Bj s k.toNat=0):En (A7 s k.toNat) S (k::R):=by
 have z:s.now.length=256:=h.ok.2.1.1;obtain⟨o,e⟩:=Jn m;obtain⟨l,c⟩:=FK (by omega) m;have y:=GO (s:=s) (k:=k.toNat) (by omega) e;have w:∀j,wS (A7 s k.toNat) S j=wS s S j:=λj=>by
  unfold wS;refine cA List.sum (List.map_congr_left λn _=>?_);unfold Bu;rw[c]
 refine⟨Jm h.ok (by omega),h.nodup,λj o u=>?_,λn d g f=>h.disj n d g (by rw[<-c];exact f),λn d lv g f i x l=>?_⟩
 ·have:=h.enough j o u;grind
 rw[c]at f;obtain⟨a,zs,b⟩:=h.closed n d lv g f i x l;grind
end Go.Proofs.YtjheijhahehnmaaGreatDoor
